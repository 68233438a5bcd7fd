/- Packing, the plain law of the reference's packing: it comes to the same table. No program is in sight here. The reference's fits. The reference's packing: what stands in memory; an element of two cells written anew. Contract: the reference's PackOf. -/
import Derived.Test.YtbnahmeaeakhhaaUa
import Derived.Test.YtbnahmeaeakhhaaV6
import Derived.Test.YtbnahmeaeakhhaaT5a
import Derived.Test.YtbnahmeaeakhhaaRi
import Derived.Test.YtbnahmeaeakhhaaV3
import Derived.Test.YtbnahmeaeakhhaaT5
import Derived.Deep.RegionLaw
namespace Go.Proofs.Ytbnahmeaeakhhaa.Q
set_option linter.unusedVariables false
set_option linter.unusedSimpArgs false
open Go Go.RowKit Go.Proofs.Ytbnahmeaeakhhaa.S

def keyN (next : List (List Int)) (s : Int) : Int := cntF (next.getD s.toNat [])
/-- the states below n whose rows have m entries, as they stand -/
def bucket (next : List (List Int)) (m : Int) (n : Nat) : List Int := (rangeI n).filter fun s => decide (keyN next s = m)
theorem bucket_zero (next : List (List Int)) (m : Int) : bucket next m 0 = [] := rfl
theorem bucket_succ (next : List (List Int)) (m : Int) (n : Nat) : bucket next m (n + 1) = bucket next m n ++ (if keyN next n = m then [(n : Int)] else []) := by
  unfold bucket
  rw [rangeI_succ, List.filter_append]
  congr 1
  by_cases h : keyN next n = m
  · rw [if_pos h]; simp [h]
  · rw [if_neg h]; simp [h]
/-- the first j buckets, from cols entries down -/
def bigs (next : List (List Int)) (cols : Nat) : Nat → List Int
  | 0 => []
  | j + 1 => bigs next cols j ++ bucket next ((cols : Int) - j) next.length
theorem mem_bucket {next : List (List Int)} {m : Int} {n : Nat} {x : Int} : x ∈ bucket next m n ↔ 0 ≤ x ∧ x < n ∧ keyN next x = m := by
  unfold bucket
  rw [List.mem_filter, rangeI_mem]; simp [and_assoc]
theorem mem_bigs {next : List (List Int)} {cols : Nat} : ∀ {j : Nat} {x : Int}, x ∈ bigs next cols j ↔ 0 ≤ x ∧ x < next.length ∧ (cols : Int) - j < keyN next x ∧ keyN next x ≤ cols
  | 0, x => by simp only [bigs, List.not_mem_nil, false_iff]; omega
  | j + 1, x => by
    simp only [bigs, List.mem_append, mem_bigs (j := j), mem_bucket]
    omega
theorem bucket_srt (next : List (List Int)) (m : Int) (n : Nat) : Srt (keyN next) (bucket next m n) := by
  have h : (bucket next m n).Pairwise (fun x y => x < y) := List.Pairwise.sublist List.filter_sublist (rangeI_inc n)
  refine List.Pairwise.imp_of_mem (fun {x y} hx hy hlt => ?_) h
  exact Or.inr ⟨(mem_bucket.1 hx).2.2.trans (mem_bucket.1 hy).2.2.symm, hlt⟩
theorem bigs_srt (next : List (List Int)) (cols : Nat) : ∀ j, Srt (keyN next) (bigs next cols j)
  | 0 => List.Pairwise.nil
  | j + 1 => by
    unfold bigs
    rw [Srt, List.pairwise_append]
    refine ⟨bigs_srt next cols j, bucket_srt _ _ _, fun x hx y hy => Or.inl ?_⟩
    have h1 := (mem_bigs.1 hx).2.2.1
    have h2 := (mem_bucket.1 hy).2.2
    omega
theorem R_irr {K : Int → Int} {x : Int} : ¬ R K x x := by unfold R; omega
theorem R_asym {K : Int → Int} {x y : Int} (h : R K x y) (h' : R K y x) : x = y := by unfold R at *; omega
theorem srt_nodup {K : Int → Int} {l : List Int} (h : Srt K l) : l.Nodup := List.Pairwise.imp (fun {a b} hr e => by subst e; exact R_irr hr) h
theorem nodup_perm {l m : List Int} (hl : l.Nodup) (hm : m.Nodup) (h : ∀ x, x ∈ l ↔ x ∈ m) : l.Perm m := by
  rw [List.perm_iff_count]
  intro a
  by_cases ha : a ∈ l
  · rw [List.Nodup.count hl, List.Nodup.count hm]
    simp [ha, (h a).1 ha]
  · rw [List.count_eq_zero_of_not_mem ha, List.count_eq_zero_of_not_mem (fun e => ha ((h a).2 e))]
theorem bigs_perm {next : List (List Int)} {cols : Nat} (hr : ∀ s, s < next.length → (next.getD s []).length = cols) : Srt (keyN next) (bigs next cols cols ++ bucket next 0 next.length) ∧ (bigs next cols cols ++ bucket next 0 next.length).Perm (rangeI next.length) := by
  have h2 : Srt (keyN next) (bigs next cols cols ++ bucket next 0 next.length) := by
    have := bigs_srt next cols (cols + 1)
    unfold bigs at this
    rwa [Int.sub_self] at this
  have hn : (rangeI next.length).Nodup := by
    have := rangeI_inc next.length
    unfold Inc at this
    exact List.Pairwise.imp (fun h => by omega) this
  refine ⟨h2, nodup_perm (srt_nodup h2) hn fun x => ?_⟩
  rw [rangeI_mem, List.mem_append, mem_bigs, mem_bucket]
  constructor
  · rintro (h | h)
    · exact ⟨h.1, h.2.1⟩
    · exact ⟨h.1, h.2.1⟩
  · rintro ⟨h1, h2⟩
    have h3 := cntF_bd (next.getD x.toNat [])
    have h4 := hr x.toNat (by omega)
    rw [h4] at h3
    have h5 : keyN next x = cntF (next.getD x.toNat []) := rfl
    omega
theorem bucket_len (next : List (List Int)) (m : Int) : ∀ (d s : Nat), (bucket next m s).length ≤ (bucket next m (s + d)).length
  | 0, s => Nat.le_refl _
  | d + 1, s => by
    have := bucket_len next m d s
    rw [show s + (d + 1) = (s + d) + 1 by omega, bucket_succ, List.length_append]; omega
theorem bigs_len (next : List (List Int)) (cols : Nat) : ∀ (d j : Nat), (bigs next cols j).length ≤ (bigs next cols (j + d)).length
  | 0, j => Nat.le_refl _
  | d + 1, j => by
    have := bigs_len next cols d j
    rw [show j + (d + 1) = (j + d) + 1 by omega]
    simp only [bigs, List.length_append]; omega
/-- the rows taken before row s of round j -/
def doneL (next : List (List Int)) (cols j s : Nat) : List Int := bigs next cols j ++ bucket next ((cols : Int) - j) s
theorem doneL_len {next : List (List Int)} {cols j s : Nat} (hr : ∀ s, s < next.length → (next.getD s []).length = cols) (hj : j < cols) (hs : s ≤ next.length) : (doneL next cols j s).length ≤ next.length := by
  have h1 := (bigs_perm hr).2.length_eq
  rw [rangeI_len, List.length_append] at h1
  have h2 := bigs_len next cols (cols - (j + 1)) (j + 1)
  rw [show j + 1 + (cols - (j + 1)) = cols by omega] at h2
  have h3 := bucket_len next ((cols : Int) - j) (next.length - s) s
  rw [show s + (next.length - s) = next.length by omega] at h3
  simp only [bigs, List.length_append] at h2
  unfold doneL
  rw [List.length_append]; omega
theorem doneL_zero (next : List (List Int)) (cols j : Nat) : doneL next cols j 0 = bigs next cols j := by simp [doneL, bucket_zero]
theorem doneL_all (next : List (List Int)) (cols j : Nat) : doneL next cols j next.length = bigs next cols (j + 1) := rfl
theorem doneL_in {next : List (List Int)} {cols j s : Nat} (h : keyN next s = (cols : Int) - j) : doneL next cols j (s + 1) = doneL next cols j s ++ [(s : Int)] := by
  unfold doneL
  rw [bucket_succ, if_pos h, List.append_assoc]
theorem doneL_out {next : List (List Int)} {cols j s : Nat} (h : ¬ keyN next s = (cols : Int) - j) : doneL next cols j (s + 1) = doneL next cols j s := by
  unfold doneL
  rw [bucket_succ, if_neg h, List.append_nil]
theorem doneL_srt {next : List (List Int)} {cols j s : Nat} : Srt (keyN next) (doneL next cols j s) ∧ ∀ x ∈ doneL next cols j s, 0 ≤ x ∧ x < next.length ∨ 0 ≤ x ∧ x < s := by
  unfold doneL
  refine ⟨?_, fun x hx => ?_⟩
  · rw [Srt, List.pairwise_append]
    refine ⟨bigs_srt next cols j, bucket_srt _ _ _, fun x hx y hy => Or.inl ?_⟩
    have h1 := (mem_bigs.1 hx).2.2.1
    have h2 := (mem_bucket.1 hy).2.2
    omega
  · rcases List.mem_append.1 hx with h | h
    · exact Or.inl ⟨(mem_bigs.1 h).1, (mem_bigs.1 h).2.1⟩
    · exact Or.inr ⟨(mem_bucket.1 h).1, (mem_bucket.1 h).2.1⟩
theorem doneL_inv {next : List (List Int)} {cols j s : Nat} (hf : rowsForm cols next 0) (hs : s ≤ next.length) : PInv next cols (doneL next cols j s) (packGo next (doneL next cols j s)) := by
  have h0 : PInv next cols [] (List.replicate next.length 0, ([], [])) := by
    refine ⟨by simp, rfl, by simp, fun i hi => by simp at hi, fun s hs => by simp at hs, fun s hs => ?_, by simp [cntF]⟩
    have : gm (List.replicate next.length 0) s = 0 := by rw [gm_in (by simpa using hs)]; simp
    show 0 ≤ gm (List.replicate next.length 0) s ∧ (gm (List.replicate next.length 0) s = 0 ∨ _)
    rw [this]; exact ⟨by omega, Or.inl rfl⟩
  have := pinv_go hf (doneL next cols j s) [] _ h0 (fun x hx => by have := doneL_srt.2 x hx; omega) (by rw [List.nil_append]; exact srt_nodup doneL_srt.1)
  simpa [packGo] using this
/-- the order of the sort is that of the buckets -/
theorem ord_bigs {next : List (List Int)} {cols : Nat} (hr : ∀ s, s < next.length → (next.getD s []).length = cols) {ord : List Int} (hp : ord.Perm (rangeI next.length)) (hs : Srt (keyN next) ord) :
    ord = bigs next cols cols ++ bucket next 0 next.length :=
  List.Perm.eq_of_pairwise (le := R (keyN next)) (fun a b _ _ h1 h2 => R_asym h1 h2) hs (bigs_perm hr).1 (hp.trans (bigs_perm hr).2.symm)
theorem packGo_zero (next : List (List Int)) : ∀ (l : List Int) (t : List Int × (List Int × List Int)), (∀ s ∈ l, keyN next s = 0) → l.foldl (packStep next) t = t
  | [], t, _ => rfl
  | s :: l, t, h => by
    have h0 : packStep next t s = t := by
      unfold packStep
      rw [if_pos (show cntF (next.getD s.toNat []) = 0 from h s (by simp))]
    rw [List.foldl_cons, h0]
    exact packGo_zero next l t fun x hx => h x (by simp [hx])
theorem packGo_ord {next : List (List Int)} {cols : Nat} (hr : ∀ s, s < next.length → (next.getD s []).length = cols) {ord : List Int} (hp : ord.Perm (rangeI next.length)) (hs : Srt (keyN next) ord) :
    packGo next ord = packGo next (bigs next cols cols) := by
  rw [ord_bigs hr hp hs]
  unfold packGo
  rw [List.foldl_append]
  exact packGo_zero next _ _ fun s hs => (mem_bucket.1 hs).2.2

/-! ### slots that are pairs, with room behind them -/
def fsts (l : List (Int × Int)) : List Int := l.map fun p => p.1
def snds (l : List (Int × Int)) : List Int := l.map fun p => p.2
theorem fsts_len (l : List (Int × Int)) : (fsts l).length = l.length := by simp [fsts]
theorem snds_len (l : List (Int × Int)) : (snds l).length = l.length := by simp [snds]
theorem gm_fsts {l : List (Int × Int)} {i : Nat} (h : i < l.length) : gm (fsts l) i = l[i].1 := by rw [gm_in (by rw [fsts_len]; exact h)]; simp [fsts]
theorem gm_snds {l : List (Int × Int)} {i : Nat} (h : i < l.length) : gm (snds l) i = l[i].2 := by rw [gm_in (by rw [snds_len]; exact h)]; simp [snds]
/-- the slots read as these owners and these next states -/
structure Same2 (l : List (Int × Int)) (p : List Int × List Int) : Prop where
  own : ∀ i, gm (fsts l) i = gm p.1 i
  nxt : ∀ i, gm (snds l) i = gm p.2 i
theorem gm_append_free (l : List Int) (i : Nat) : gm (l ++ [-1]) i = gm l i := by
  simp only [gm, List.getD_eq_getElem?_getD]
  by_cases h : i < l.length
  · rw [List.getElem?_append_left h]
  · rw [List.getElem?_append_right (by omega), List.getElem?_eq_none (l := l) (by omega)]
    cases hh : i - l.length with
    | zero => rfl
    | succ n => rfl
theorem Same2.room {l : List (Int × Int)} {p : List Int × List Int} (h : Same2 l p) : Same2 (l ++ [(-1, -1)]) p :=
  ⟨fun i => by rw [show fsts (l ++ [(-1, -1)]) = fsts l ++ [-1] by simp [fsts], gm_append_free]; exact h.own i,
   fun i => by rw [show snds (l ++ [(-1, -1)]) = snds l ++ [-1] by simp [snds], gm_append_free]; exact h.nxt i⟩
/-- a row's entries, laid from b + c on -/
def fillP (s : Int) (b : Nat) : Nat → List Int → List (Int × Int) → List (Int × Int)
  | _, [], l => l
  | c, x :: row, l => fillP s b (c + 1) row (if x < 0 then l else l.set (b + c) (s, x))
theorem fillP_append (s : Int) (b : Nat) : ∀ (l1 l2 : List Int) (c : Nat) (p : List (Int × Int)), fillP s b c (l1 ++ l2) p = fillP s b (c + l1.length) l2 (fillP s b c l1 p)
  | [], l2, c, p => by simp [fillP]
  | x :: l1, l2, c, p => by simp only [List.cons_append, fillP, fillP_append s b l1 l2, List.length_cons]; congr 1; omega
theorem fillP_take (s : Int) (b : Nat) (row : List Int) (c : Nat) (hc : c < row.length) (p : List (Int × Int)) :
    fillP s b 0 (row.take (c + 1)) p = if row.getD c 0 < 0 then fillP s b 0 (row.take c) p else (fillP s b 0 (row.take c) p).set (b + c) (s, row.getD c 0) := by
  have h1 : row.take (c + 1) = row.take c ++ [row.getD c 0] := by
    rw [List.take_succ_eq_append_getElem hc, List.getD_eq_getElem?_getD, List.getElem?_eq_getElem hc]; rfl
  have h2 : (row.take c).length = c := by simp; omega
  rw [h1, fillP_append, h2, Nat.zero_add]
  simp only [fillP]
theorem fillP_len (s : Int) (b : Nat) : ∀ (row : List Int) (c : Nat) (l : List (Int × Int)), (fillP s b c row l).length = l.length
  | [], c, l => rfl
  | x :: row, c, l => by simp only [fillP, fillP_len s b row]; split <;> simp
theorem fillP_same (s : Int) (b : Nat) : ∀ (row : List Int) (c : Nat) (l : List (Int × Int)) (p : List Int × List Int), Same2 l p → b + c + row.length ≤ l.length → Same2 (fillP s b c row l) (fillF s b c row p)
  | [], c, l, p, h, _ => h
  | x :: row, c, l, p, h, hl => by
    simp only [fillP, fillF]
    simp only [List.length_cons] at hl
    refine fillP_same s b row (c + 1) _ _ ?_ (by (split <;> (try rw [List.length_set])) <;> omega)
    by_cases hx : x < 0
    · rw [if_pos hx, if_pos hx]; exact h
    · rw [if_neg hx, if_neg hx]
      refine ⟨fun i => ?_, fun i => ?_⟩
      · rw [show fsts (l.set (b + c) (s, x)) = (fsts l).set (b + c) s by simp [fsts, List.map_set], gm_set (by rw [fsts_len]; omega), (putE_gm _ _ _ _ _).1, h.own]
      · rw [show snds (l.set (b + c) (s, x)) = (snds l).set (b + c) x by simp [snds, List.map_set], gm_set (by rw [snds_len]; omega), (putE_gm _ _ _ _ _).2, h.nxt]
/-- what the reference's fits tells, from c on -/
def fitsAt (l : List (Int × Int)) (row : List Int) (b : Nat) : Prop := ∀ i, i < row.length → 0 ≤ row.getD i 0 → gm (fsts l) (b + i) < 0
theorem free_iff {own row : List Int} {b : Nat} : freeAt own row b ↔ ∀ i, i < row.length → 0 ≤ row.getD i 0 → gm own (b + i) < 0 := by
  constructor
  · intro h i hi hx
    by_cases e : b + i < own.length
    · rw [← gm_getD e]; exact h i (Nat.zero_le _) hi hx e
    · rw [gm_out (by omega)]; omega
  · intro h i _ hi hx hlt
    rw [gm_getD hlt]; exact h i hi hx
theorem fits_iff {l : List (Int × Int)} {p : List Int × List Int} (h : Same2 l p) {row : List Int} {b : Nat} : fitsAt l row b ↔ freeAt p.1 row b := by
  rw [free_iff]
  unfold fitsAt
  constructor
  · intro g i hi hx; rw [← h.own]; exact g i hi hx
  · intro g i hi hx; rw [h.own]; exact g i hi hx
theorem placeN_eq {own row : List Int} {b : Nat} (h : freeAt own row b) (hn : ∀ c, c < b → ¬ freeAt own row c) : placeN own row = b := by
  obtain ⟨h1, h2, h3⟩ := placeN_spec own row
  by_cases e : placeN own row < b
  · exact absurd h1 (hn _ e)
  · by_cases e2 : b < placeN own row
    · exact absurd h (h2 _ e2)
    · omega
/-- a row of the reference's packing -/
theorem Same2.step {next : List (List Int)} {done : List Int} {l : List (Int × Int)} (h : Same2 l (packGo next done).2) {s : Nat} (hc : cntF (next.getD s []) ≠ 0) {b : Nat} (hf : fitsAt l (next.getD s []) b) (hn : ∀ c, c < b → ¬ fitsAt l (next.getD s []) c)
    (hl : b + (next.getD s []).length ≤ l.length) :
    Same2 (fillP s b 0 (next.getD s []) l) (packGo next (done ++ [(s : Int)])).2 ∧ (packGo next (done ++ [(s : Int)])).1 = (packGo next done).1.set s b := by
  have e : placeN (packGo next done).2.1 (next.getD s []) = b := placeN_eq ((fits_iff h).1 hf) fun c hcb hh => hn c hcb ((fits_iff h).2 hh)
  rw [packGo_snoc]
  unfold packStep
  rw [if_neg (by rw [Int.toNat_natCast]; exact hc)]
  simp only [Int.toNat_natCast, e]
  exact ⟨fillP_same s b _ 0 l _ h (by omega), trivial⟩
/-- the last slot is taken -/
def Tight (l : List Int) : Prop := ∀ i, i + 1 = l.length → 0 ≤ gm l i
theorem putE_tight {p : List Int × List Int} {k : Nat} {s x : Int} (hs : 0 ≤ s) (h : Tight p.1) : Tight (putE p k s x).1 := by
  intro i hi
  rw [(putE_len p k s x).1] at hi
  rw [(putE_gm p k s x i).1]
  split
  · exact hs
  · exact h i (by omega)
theorem fillF_tight {s : Int} (hs : 0 ≤ s) (b : Nat) : ∀ (row : List Int) (c : Nat) (p : List Int × List Int), Tight p.1 → Tight (fillF s b c row p).1
  | [], c, p, h => h
  | x :: row, c, p, h => by
    simp only [fillF]
    refine fillF_tight hs b row (c + 1) _ ?_
    split
    · exact h
    · exact putE_tight hs h
theorem packGo_tight {next : List (List Int)} : ∀ (l : List Int) (t : List Int × (List Int × List Int)), (∀ s ∈ l, 0 ≤ s) → Tight t.2.1 → Tight (l.foldl (packStep next) t).2.1
  | [], t, _, h => h
  | s :: l, t, hl, h => by
    rw [List.foldl_cons]
    refine packGo_tight l _ (fun x hx => hl x (by simp [hx])) ?_
    unfold packStep
    split
    · exact h
    · exact fillF_tight (hl s (by simp)) _ _ _ _ h
/-- the slots, cut behind the last that is taken, are the table's -/
theorem trim_eq {l : List (Int × Int)} {own nxt : List Int} (h : Same2 l (own, nxt)) (hl : own.length = nxt.length) (ht : Tight own) (hz : ∀ i, gm own i < 0 → gm own i = -1 ∧ gm nxt i = -1) {m : Nat} (hm : m ≤ l.length)
    (hfree : ∀ i, m ≤ i → i < l.length → gm (fsts l) i < 0) (hlast : ∀ i, i + 1 = m → ¬ gm (fsts l) i < 0) : fsts (l.take m) = own ∧ snds (l.take m) = nxt := by
  have hfo : ∀ i, m ≤ i → gm own i < 0 := fun i hi => by
    by_cases e : i < l.length
    · rw [← h.own]; exact hfree i hi e
    · have := h.own i
      rw [gm_out (by rw [fsts_len]; omega)] at this
      show gm own i < 0
      rw [← this]; omega
  have h1 : own.length = m := by
    rcases Nat.lt_trichotomy own.length m with hlt | he | hgt
    · exfalso
      have h2 := hlast (m - 1) (by omega)
      rw [h.own, gm_out (by show own.length ≤ m - 1; omega)] at h2
      omega
    · exact he
    · have h2 := ht (own.length - 1) (by omega)
      have h3 := hfo (own.length - 1) (by omega)
      omega
  have hlm : (l.take m).length = m := by simp; omega
  refine ⟨?_, ?_⟩
  · refine List.ext_getElem (by rw [fsts_len, hlm, h1]) fun i h2 h3 => ?_
    rw [← gm_in h2, ← gm_in h3, ← h.own, gm_fsts (by rw [← fsts_len]; exact h2), gm_fsts (by omega)]
    rw [List.getElem_take]
  · refine List.ext_getElem (by rw [snds_len, hlm, ← hl, h1]) fun i h2 h3 => ?_
    rw [← gm_in h2, ← gm_in h3, ← h.nxt, gm_snds (by rw [← snds_len]; exact h2), gm_snds (by omega)]
    rw [List.getElem_take]
theorem trim_pack {next : List (List Int)} {cols : Nat} (hf : rowsForm cols next 0) {l : List (Int × Int)} (h : Same2 l (packGo next (bigs next cols cols)).2) {m : Nat} (hm : m ≤ l.length)
    (hfree : ∀ i, m ≤ i → i < l.length → gm (fsts l) i < 0) (hlast : ∀ i, i + 1 = m → ¬ gm (fsts l) i < 0) : fsts (l.take m) = (packGo next (bigs next cols cols)).2.1 ∧ snds (l.take m) = (packGo next (bigs next cols cols)).2.2 := by
  have hi := doneL_inv (cols := cols) (j := cols) hf (Nat.zero_le _)
  rw [doneL_zero] at hi
  refine trim_eq (own := (packGo next (bigs next cols cols)).2.1) (nxt := (packGo next (bigs next cols cols)).2.2) h hi.len ?_ (fun i hg => ?_) hm hfree hlast
  · refine packGo_tight _ _ (fun s hs => (mem_bigs.1 hs).1) (fun i hi => by simp at hi)
  · by_cases e : i < (packGo next (bigs next cols cols)).2.1.length
    · rcases hi.slot i e with g | ⟨s, g1, -⟩
      · exact g
      · rw [g1] at hg; omega
    · exact ⟨gm_out (by omega), gm_out (by have := hi.len; omega)⟩
theorem same2_nil : Same2 [] (([] : List Int), ([] : List Int)) := ⟨fun i => rfl, fun i => rfl⟩
theorem same2_pad {l : List (Int × Int)} {p : List Int × List Int} (h : Same2 l p) : ∀ n, Same2 (l ++ List.replicate n (-1, -1)) p
  | 0 => by simpa using h
  | n + 1 => by rw [List.replicate_succ', ← List.append_assoc]; exact (same2_pad h n).room
end Go.Proofs.Ytbnahmeaeakhhaa.Q

namespace Go.Proofs.Ytbnahmeaeakhhaa.B
set_option linter.unusedVariables false
set_option linter.unusedSimpArgs false
open Go Go.RowKit Go.Proofs.Ytbnahmeaeakhhaa.Q Classical
/-- all entries of the row fall on free slots -/
def fitsL (L : List (Int × Int)) (row : List Int) : Prop := ∀ i, i < row.length → 0 ≤ row.getD i 0 → gm (fsts L) i < 0
theorem fitsL_drop {l : List (Int × Int)} {row : List Int} {b : Nat} : fitsL (l.drop b) row ↔ fitsAt l row b := by
  have e : ∀ i, gm (fsts (l.drop b)) i = gm (fsts l) (b + i) := fun i => by
    simp only [gm, fsts, List.getD_eq_getElem?_getD, List.getElem?_map, List.getElem?_drop]
  unfold fitsL fitsAt
  simp only [e]
theorem cellP {H : PH} {w : World} {A : Option Addr} {n c : Nat} {L : List (Int × Int)} (h : SlR kP H A n c L) (hs : Sat w H) (i : Nat) (hi : i < L.length) :
    ∃ b off, A = some ⟨b, off, none⟩ ∧ w.cell? ⟨b, off + i * 2, none⟩ = some (.int .i64 (gm (fsts L) i)) ∧ w.cell? ⟨b, off + i * 2 + 1, none⟩ = some (.int .i64 (gm (snds L) i)) := by
  obtain ⟨b, off, cs, e, hrd, hcell⟩ := h.row i hi
  obtain rfl : cs = [.int .i64 L[i].1, .int .i64 L[i].2] := hrd
  obtain ⟨g0, g1⟩ := at2 hs hcell
  rw [gm_fsts hi, gm_snds hi]
  exact ⟨b, off, e, g0, g1⟩
set_option maxRecDepth 100000 in
set_option maxHeartbeats 8000000 in
theorem fits_hand (H : PH) (L : List (Int × Int)) (row : List Int) (A1 A2 : Option Addr) (n c1 c2 : Nat) (w : World) (h1 : SlR kP H A1 n c1 L) (h2 : SlR (kI .i64) H A2 row.length c2 row) (hs : Sat w H) (hl : row.length ≤ n) (hn : n ≤ 100000) :
    Calls Try.prog 118 #[.slice A1 n c1, .slice A2 row.length c2] w fun e w' => e = .returned (.bool (dB (fitsL L row))) ∧ Below w.heap.size w w' := by
  have hL : n = L.length := h1.1
  replace hL := Aside.mk hL
  have hx := Aside.mk (Ext.refl hs)
  replace h1 := Aside.mk h1
  replace h2 := Aside.mk h2
  go_enter Try.func118, Try.ntmps118
  go_wp2_with fail
  go_loopw [9] (fun s9 wr => ∃ (k : Nat) (Hk : PH), k ≤ row.length ∧ s9 = .int .i64 k ∧ Aside (∀ i, i < k → 0 ≤ row.getD i 0 → gm (fsts L) i < 0) ∧ Aside (Ext H Hk w wr) ∧ Aside (SlR kP Hk A1 n c1 L) ∧ Aside (SlR (kI .i64) Hk A2 row.length c2 row)) (fun s9 _ => row.length - (intOf s9).toNat)
  case atStart => exact ⟨0, _, by omega, rfl, ⟨fun i h => by omega⟩, hx, h1, h2⟩
  case round =>
    clear hx h1 h2
    obtain ⟨k, Hk, hk, rfl, hno, hx, h1, h2⟩ := hrel
    by_cases hlt : k < row.length
    case pos =>
      have hli : (k : Int) < (row.length : Int) := by omega
      have hln : (k : Int) < (n : Int) := by omega
      obtain ⟨b5, o5, eA, hca, -⟩ := cellP h1.out hx.out.sat k (by have := hL.out; omega)
      subst eA
      obtain ⟨b6, o6, eA, hcb⟩ := (h2.out.wr hx.out.sat).atD k hlt
      subst eA
      have hbad := Aside.mk (fun (h1 : 0 ≤ row.getD k 0) (h2 : 0 ≤ gm (fsts L) k) => show ¬ fitsL L row from fun h => by have := h k hlt h1; omega)
      have hno2 := Aside.mk (fun (h : 0 ≤ row.getD k 0 → gm (fsts L) k < 0) => show ∀ i, i < k + 1 → 0 ≤ row.getD i 0 → gm (fsts L) i < 0 from fun i hi hx => by
          by_cases e : i = k
          · subst e; exact h hx
          · exact hno.out i (by omega) hx)
      generalize row.getD k 0 = y at *
      generalize gm (fsts L) k = z at *
      by_cases y0 : 0 ≤ y
      case neg =>
        have hf := Aside.mk (hno2.out (fun h => absurd h y0))
        go_wp2_with fail
        go_roundw
        case rel => exact ⟨k + 1, _, by omega, by go_num, hf, hx, h1, h2⟩
        case measure => (first | (simp [intOf]; done) | (simp [intOf]; omega))
      case pos =>
        by_cases z0 : 0 ≤ z
        case neg =>
          have hf := Aside.mk (hno2.out (fun _ => by omega))
          go_wp2_with fail
          go_roundw
          case rel => exact ⟨k + 1, _, by omega, by go_num, hf, hx, h1, h2⟩
          case measure => (first | (simp [intOf]; done) | (simp [intOf]; omega))
        case pos =>
          have hf := Aside.mk (hbad.out y0 z0)
          go_wp2_with fail
          go_ret
          exact ⟨by rw [dB_f hf.out]; rfl, hx.out.below⟩
    case neg =>
      have hli : ¬ (k : Int) < (row.length : Int) := by omega
      have hte : Aside (fitsL L row) := ⟨fun i hi => hno.out i (by omega)⟩
      go_wp2_with fail
      go_ret
      exact ⟨by rw [dB_t hte.out]; rfl, hx.out.below⟩
end Go.Proofs.Ytbnahmeaeakhhaa.B

namespace Go.Proofs.Ytbnahmeaeakhhaa.B
set_option linter.unusedVariables false
set_option linter.unusedSimpArgs false
open Go Go.RowKit Go.Proofs.Ytbnahmeaeakhhaa.Q Go.Proofs.Ytbnahmeaeakhhaa.S

section
variable {e : TypeId} {w : World} {base : Nat} {H : PH}
theorem Own.putP {g c n : Nat} {xs : List (Int × Int)} (h : Own kP e w base H (.slice (some ⟨g, 0, none⟩) n c) xs) (hn : n = xs.length) {i : Nat} (hi : i < xs.length) (y : Int × Int) :
    Own kP e ((w.setCell ⟨g, i * 2, none⟩ (.int .i64 y.1)).setCell ⟨g, i * 2 + 1, none⟩ (.int .i64 y.2)) base H (.slice (some ⟨g, 0, none⟩) n c) (xs.set i y) ∧
      w.grownBy ((w.setCell ⟨g, i * 2, none⟩ (.int .i64 y.1)).setCell ⟨g, i * 2 + 1, none⟩ (.int .i64 y.2)) (some g) := by
  subst hn
  obtain ⟨cs, h1, h2, h3⟩ := h
  obtain ⟨h4, h5⟩ := World.ownsRow.stored h2 (i * 2) (.int .i64 y.1)
  obtain ⟨h6, h7⟩ := World.ownsRow.stored h4 (i * 2 + 1) (.int .i64 y.2)
  refine ⟨⟨(cs.set (i * 2) (.int .i64 y.1)).set (i * 2 + 1) (.int .i64 y.2), ?_, by rw [List.length_set]; exact h6, h3⟩, grownBy_trans h5 h7⟩
  have h8 := h1.set i hi y [.int .i64 y.1, .int .i64 y.2] rfl
  have hl := h1.length
  have hk : kP.sz = 2 := rfl
  rw [hk] at h8 hl
  have e1 : (cs.set (i * 2) (.int .i64 y.1)).set (i * 2 + 1) (.int .i64 y.2) = cs.take (i * 2) ++ [.int .i64 y.1, .int .i64 y.2] ++ cs.drop (i * 2 + 2) := by
    refine List.ext_getElem? fun j => ?_
    simp only [List.getElem?_set, List.length_set]
    by_cases e1 : i * 2 + 1 = j
    · subst e1
      rw [if_pos rfl, if_pos (by omega), List.getElem?_append_left (by simp; omega), List.getElem?_append_right (by simp; omega)]
      have : (i * 2 + 1 - (List.take (i * 2) cs).length) = 1 := by simp; omega
      rw [this]; rfl
    · rw [if_neg e1]
      by_cases e2 : i * 2 = j
      · subst e2
        rw [if_pos rfl, if_pos (by omega), List.getElem?_append_left (by simp; omega), List.getElem?_append_right (by simp; omega)]
        have : (i * 2 - (List.take (i * 2) cs).length) = 0 := by simp; omega
        rw [this]; rfl
      · rw [if_neg e2]
        rcases Nat.lt_or_ge j (i * 2) with hlt | hge
        · rw [List.append_assoc, List.getElem?_append_left (by simp; omega), List.getElem?_take_of_lt hlt]
        · rw [List.getElem?_append_right (by simp; omega), List.getElem?_drop]
          congr 1
          simp; omega
  rw [e1]; exact h8
end
section
variable {H0 Hk Hk' : PH} {w0 W W' : World} {g zb gb M nn : Nat} {ot oz : Obj} {lb : List Int} {vu vu' : Value} {lu lu' : List Int} {vv vv' : Value} {lv lv' : List Int}
theorem PS.ext (h : PS H0 Hk w0 W g zb gb M ot oz nn lb vu lu vv lv) (k : Ext Hk Hk' W W') : PS H0 Hk' w0 W' g zb gb M ot oz nn lb vu lu vv lv :=
  { h with hx := h.hx.trans k, kt := box_below h.kt k.below, kz := box_below h.kz k.below, nt := fun o => (k.old g o (boxL h.kt)).trans (h.nt o), nz := fun o => (k.old zb o (boxL h.kz)).trans (h.nz o), hob := h.hob.ext k, hu := h.hu.ext k, hv := h.hv.ext k }
end

theorem PS.setT {H0 Hk : PH} {w0 W : World} {g zb gb M nn : Nat} {cs : Array Value} {T : TypeId} {oz : Obj} {lb : List Int} {vu : Value} {lu : List Int} {vv : Value} {lv : List Int} (h : PS H0 Hk w0 W g zb gb M (.cells cs T) oz nn lb vu lu vv lv) (hz : zb ≠ g) (hb : gb ≠ g) (hg : w0.heap.size ≤ g) (j : Nat) (v : Value) :
    PS H0 Hk w0 (W.setCell ⟨g, j, none⟩ v) g zb gb M (.cells (cs.setIfInBounds j v) T) oz nn lb vu lu vv lv :=
  { h with
    hx := h.hx.setCell hg h.nt v
    kt := boxS h.kt j v
    kz := boxS_ne h.kz hz j v
    hob := h.hob.grown (grownBy_setCell _ g j v) (Or.inr fun e => hb (Option.some.inj e))
    hu := h.hu.grown (grownBy_setCell _ g j v) (Or.inr fun e => by have := (h.hu.blk e).1; have := h.gM; omega)
    hv := h.hv.grown (grownBy_setCell _ g j v) (Or.inr fun e => by have := (h.hv.blk e).1; have := h.gM; omega) }

/-- while a slot is laid down: what t.Owner and t.Next have become -/
def I36 (H0 : PH) (w0 : World) (tb zb gb M : Nat) (c0 c1 c2 c3 : Value) (oz : Obj) (n : Nat) (lb : List Int) (u0 v0 : Value) (lu lv : List Int) (x y : Int) (g : Mk) (H : PH) (w : World) : Prop :=
  PS H0 H w0 w tb zb gb M (.cells #[c0, c1, c2, c3, if (g 13).isSome then (g 5).getD u0 else u0, v0] 85) oz n lb ((g 5).getD u0) (if (g 5).isSome then lu ++ [x] else lu) ((g 11).getD v0) (if (g 11).isSome then lv ++ [y] else lv)

section
variable {H0 H H' : PH} {w0 w w' : World} {tb zb gb M : Nat} {c0 c1 c2 c3 : Value} {oz : Obj} {n : Nat} {lb : List Int} {u0 v0 : Value} {lu lv : List Int} {x y : Int} {g : Mk}
theorem I36.start (h : PS H0 H w0 w tb zb gb M (.cells #[c0, c1, c2, c3, u0, v0] 85) oz n lb u0 lu v0 lv) : I36 H0 w0 tb zb gb M c0 c1 c2 c3 oz n lb u0 v0 lu lv x y (fun _ => none) H w := h
theorem I36.ext (h : I36 H0 w0 tb zb gb M c0 c1 c2 c3 oz n lb u0 v0 lu lv x y g H w) (k : Ext H H' w w') : I36 H0 w0 tb zb gb M c0 c1 c2 c3 oz n lb u0 v0 lu lv x y g H' w' := PS.ext h k
theorem I36.sat (h : I36 H0 w0 tb zb gb M c0 c1 c2 c3 oz n lb u0 v0 lu lv x y g H w) : Sat w H := (PS.hx h).sat
theorem I36.owner (h : I36 H0 w0 tb zb gb M c0 c1 c2 c3 oz n lb u0 v0 lu lv x y g H w) (h13 : g 13 = none) : w.cell? ⟨tb, 4, none⟩ = some u0 := by
  have q := (boxC (PS.kt h) 4).1
  rw [h13] at q; exact q
theorem I36.nextc (h : I36 H0 w0 tb zb gb M c0 c1 c2 c3 oz n lb u0 v0 lu lv x y g H w) : w.cell? ⟨tb, 5, none⟩ = some v0 := (boxC (PS.kt h) 5).1
theorem I36.pre5 (h : I36 H0 w0 tb zb gb M c0 c1 c2 c3 oz n lb u0 v0 lu lv x y g H w) (h5 : g 5 = none) (h13 : g 13 = none) :
    PS H0 H w0 w tb zb gb M (.cells #[c0, c1, c2, c3, u0, v0] 85) oz n lb u0 lu ((g 11).getD v0) (if (g 11).isSome then lv ++ [y] else lv) := by
  unfold I36 at h
  rw [h5, h13] at h; exact h
theorem I36.step5 (h : I36 H0 w0 tb zb gb M c0 c1 c2 c3 oz n lb u0 v0 lu lv x y g H w) (h5 : g 5 = none) (h13 : g 13 = none) {v : Value} (ho : Own (kI .i64) 3 w' M H v (lu ++ [x])) (hg : w.grownBy w' u0.ownBlock) (hn : New w u0 v) :
    I36 H0 w0 tb zb gb M c0 c1 c2 c3 oz n lb u0 v0 lu lv x y (upd g 5 v) H w' := by
  have := (h.pre5 h5 h13).up ho hg hn
  unfold I36
  rw [upd_eq, upd_ne (j := 13) _ _ (by decide), upd_ne (j := 11) _ _ (by decide), h13]
  exact this
theorem I36.pre11 (h : I36 H0 w0 tb zb gb M c0 c1 c2 c3 oz n lb u0 v0 lu lv x y g H w) (h11 : g 11 = none) :
    PS H0 H w0 w tb zb gb M (.cells #[c0, c1, c2, c3, if (g 13).isSome then (g 5).getD u0 else u0, v0] 85) oz n lb ((g 5).getD u0) (if (g 5).isSome then lu ++ [x] else lu) v0 lv := by
  unfold I36 at h
  rw [h11] at h; exact h
theorem I36.step11 (h : I36 H0 w0 tb zb gb M c0 c1 c2 c3 oz n lb u0 v0 lu lv x y g H w) (h11 : g 11 = none) {v : Value} (ho : Own (kI .i64) 3 w' M H v (lv ++ [y])) (hg : w.grownBy w' v0.ownBlock) (hn : New w v0 v) :
    I36 H0 w0 tb zb gb M c0 c1 c2 c3 oz n lb u0 v0 lu lv x y (upd g 11 v) H w' := by
  have := (h.pre11 h11).vp ho hg hn
  unfold I36
  rw [upd_eq, upd_ne (j := 13) _ _ (by decide), upd_ne (j := 5) _ _ (by decide)]
  exact this
theorem I36.step13 (h : I36 H0 w0 tb zb gb M c0 c1 c2 c3 oz n lb u0 v0 lu lv x y g H w) {v5 u : Value} (h5 : g 5 = some v5) (hz : zb ≠ tb) (hb : gb ≠ tb) (hg : w0.heap.size ≤ tb) :
    I36 H0 w0 tb zb gb M c0 c1 c2 c3 oz n lb u0 v0 lu lv x y (upd g 13 u) H (w.setCell ⟨tb, 4, none⟩ v5) := by
  have := PS.setT h hz hb hg 4 v5
  unfold I36
  rw [upd_eq, upd_ne (j := 5) _ _ (by decide), upd_ne (j := 11) _ _ (by decide)]
  rw [h5] at this ⊢
  exact this
theorem I36.fin (h : I36 H0 w0 tb zb gb M c0 c1 c2 c3 oz n lb u0 v0 lu lv x y g H w) {v5 v11 u : Value} (h5 : g 5 = some v5) (h11 : g 11 = some v11) (h13 : g 13 = some u) :
    PS H0 H w0 w tb zb gb M (.cells #[c0, c1, c2, c3, v5, v0] 85) oz n lb v5 (lu ++ [x]) v11 (lv ++ [y]) := by
  unfold I36 at h
  rw [h5, h11, h13] at h; exact h
theorem lit1 {T : TypeId} {z : Int} (hs : Sat w H) : ∃ H', Ext H H' w (w.alloc (.cells #[.int .i64 z] T)) ∧ H' w.heap.size 0 = some (.int .i64 z) := by
  obtain ⟨H', h1, -, h3⟩ := lit_extq (k := kI .i64) (e := T) (xs := [z]) (Ext.refl hs) #[.int .i64 z] ⟨[_], _, rfl, rfl, rfl⟩ (by simp)
  refine ⟨H', h1, ?_⟩
  obtain ⟨b, off, cs, e, hr, hc⟩ := h3.row 0 (by simp)
  cases e
  obtain rfl : cs = [.int .i64 z] := hr
  simpa [kI] using hc 0 _ rfl
end

/-- append(s, ys...), as an operation: ys is read -/
theorem wp_appS {α : Type} (k : Kd α) {P : Program} {w : World} {o : Oper} {a : Act} {K : Act → World → Prop} {Q : Exit → Act → World → Prop} (s x : Operand) (t : TypeId)
    (ho : o.op = .call { callee := .builtin .append, args := #[s, x], argTypes := #[t, t] })
    (e : TypeId) {z : Value} {bytes : Nat} (ht : P.underlying t = some (.slice e)) (hinfo : (P.info? e).map (fun i => (i.zero, i.size, i.bytes)) = some (some z, k.sz, bytes)) (hzs : z.cells.size = k.sz)
    {base : Nat} {H : PH} {v : Value} {xs ys : List α} {A : Option Addr} {m c : Nat} (hs : a.eval s = v) (hown : Own k e w base H v xs) (hsat : Sat w H) (hrd : SlR k H A m c ys) (hx : a.eval x = .slice A m c)
    (hbytes : (xs.length + ys.length) * bytes ≤ 140737488355328) (hmax : xs.length + ys.length ≤ maxLen) (hbase : base ≤ w.heap.size)
    (h : ∀ v' w', Own k e w' base H v' (xs ++ ys) → w.grownBy w' v.ownBlock → Sat w' H → New w v v' → K (a.put o.dst v') w') : o.wp P a w K Q := by
  obtain ⟨cs, h1, h2⟩ := hrd.row.cells
  refine wp_app k s x t ho e ht hinfo hzs hs hown hsat hx hrd.1 hrd.2.2.2.2.1 hrd.2.1 h1 (fun j u hj => ?_) hbytes hmax hbase fun v' w' g1 g2 g3 _ => h v' w' g1 g2 (hown.satG hsat g2) (New.of g3 (Nat.le_refl _))
  obtain ⟨b, off, e1, hh⟩ := h2 j u hj
  exact ⟨_, e1, by simpa [Addr.add_lit] using hsat _ _ _ hh⟩

/-- the block of a value -/
def blkOf : Value → Option Nat
  | .slice (some a) _ _ => some a.block
  | .pointer (some a) => some a.block
  | _ => none
/-- while the table is begun: the literal, the accepted, the displacements, the variable, the value -/
structure I2 (H1 : PH) (W0 : World) (st : Int) (C : Nat) (acc : List Int) (n : Nat) (g : Mk) (H : PH) (w : World) : Prop where
  hx : Ext H1 H W0 w
  m3 : ∀ v, g 3 = some v → g 6 = none → (∃ b, v = .slice (some ⟨b, 0, none⟩) 0 0) ∧ Own (kI .i64) 3 w W0.heap.size H v []
  m6 : ∀ v, g 6 = some v → ∃ A c, v = .slice A acc.length c ∧ SlR (kI .i64) H A acc.length c acc
  m8 : ∀ v, g 8 = some v → ∃ b, v = .slice (some ⟨b, 0, none⟩) n n ∧ Own (kI .i64) 3 w W0.heap.size H v (List.replicate n 0)
  m9 : ∀ v, g 9 = some v → ∃ u6 u8, g 6 = some u6 ∧ g 8 = some u8 ∧ v = .agg #[.int .i64 st, .int .i64 C, u6, u8, .slice none 0 0, .slice none 0 0]
  m10 : ∀ v, g 10 = some v → ∃ b, v = .pointer (some ⟨b, 0, none⟩) ∧ W0.heap.size ≤ b ∧ (∀ o, H b o = none) ∧ w.heap[b]? = some (.cells #[.int .i64 0, .int .i64 0, .slice none 0 0, .slice none 0 0, .slice none 0 0, .slice none 0 0] 85)
  ap3 : ∀ u v, g 3 = some u → g 6 = none → (g 8 = some v ∨ g 10 = some v) → blkOf u ≠ blkOf v
  ap8 : ∀ u v, g 8 = some u → g 10 = some v → blkOf u ≠ blkOf v
theorem upd_some {g : Mk} {n j : Nat} {v u : Value} (h : upd g n v j = some u) : (j = n ∧ u = v) ∨ (j ≠ n ∧ g j = some u) := by
  by_cases e : j = n
  · subst e; rw [upd_eq] at h; exact Or.inl ⟨rfl, (Option.some.inj h).symm⟩
  · rw [upd_ne _ _ e] at h; exact Or.inr ⟨e, h⟩
theorem upd_none {g : Mk} {n j : Nat} {v : Value} (h : upd g n v j = none) : j ≠ n ∧ g j = none := by
  by_cases e : j = n
  · subst e; rw [upd_eq] at h; cases h
  · rw [upd_ne _ _ e] at h; exact ⟨e, h⟩
section
variable {H1 H H' : PH} {W0 w w' : World} {st : Int} {C n : Nat} {acc : List Int} {g : Mk}
theorem I2.start (hs : Sat W0 H1) : I2 H1 W0 st C acc n (fun _ => none) H1 W0.drew :=
  ⟨(Ext.refl hs).drew, fun v h => (by cases h), fun v h => (by cases h), fun v h => (by cases h), fun v h => (by cases h), fun v h => (by cases h), fun u v h => (by cases h), fun u v h => (by cases h)⟩
theorem I2.alloc (h : I2 H1 W0 st C acc n g H w) (o : Obj) : I2 H1 W0 st C acc n g H (w.alloc o) :=
  ⟨h.hx.alloc o, fun v a b => ⟨(h.m3 v a b).1, (h.m3 v a b).2.alloc h.hx.sat o⟩, h.m6, fun v a => by obtain ⟨b, e, ho⟩ := h.m8 v a; exact ⟨b, e, ho.alloc h.hx.sat o⟩, h.m9,
    fun v a => by obtain ⟨b, e, h1, h2, h3⟩ := h.m10 v a; exact ⟨b, e, h1, h2, boxA h3 o⟩, h.ap3, h.ap8⟩
theorem I2.lt (h : I2 H1 W0 st C acc n g H w) {v : Value} (hv : g 8 = some v ∨ g 10 = some v) : ∀ b, blkOf v = some b → b < w.heap.size := fun b hb => by
  rcases hv with hv | hv
  · obtain ⟨b', rfl, ho⟩ := h.m8 v hv
    have := (ho.blk (b := b') rfl).2.1
    simp [blkOf] at hb; omega
  · obtain ⟨b', rfl, -, -, hk⟩ := h.m10 v hv
    have := boxL hk
    simp [blkOf] at hb; omega
theorem I2.lt3 (h : I2 H1 W0 st C acc n g H w) {v : Value} (hv : g 3 = some v) (h6 : g 6 = none) : ∀ b, blkOf v = some b → b < w.heap.size := fun b hb => by
  obtain ⟨⟨b', rfl⟩, ho⟩ := h.m3 v hv h6
  have := (ho.blk (b := b') rfl).2.1
  simp [blkOf] at hb; omega
theorem ne_new {v : Value} {s : Nat} (h : ∀ b, blkOf v = some b → b < s) {u : Value} (hu : blkOf u = some s) : blkOf u ≠ blkOf v := fun e => by
  rw [hu] at e
  have := h s e.symm
  omega
theorem I2.step3 (h : I2 H1 W0 st C acc n g H w) : I2 H1 W0 st C acc n (upd g 3 (.slice (some ⟨w.heap.size, 0, none⟩) 0 0)) H (w.alloc (.cells #[] 3)) := by
  have h2 := h.alloc (.cells #[] 3)
  refine ⟨h2.hx, fun v a b => ?_, fun v a => ?_, fun v a => ?_, fun v a => ?_, fun v a => ?_, fun u v a b c => ?_, fun u v a b => ?_⟩
  · rcases upd_some a with ⟨-, rfl⟩ | ⟨e, -⟩
    · exact ⟨⟨_, rfl⟩, by simpa using Own.lit (k := kI .i64) (e := 3) (xs := []) h.hx.sat #[] h.hx.size rfl (by simp)⟩
    · exact absurd rfl e
  · rw [upd_ne _ _ (by decide)] at a; exact h2.m6 v a
  · rw [upd_ne _ _ (by decide)] at a; exact h2.m8 v a
  · rw [upd_ne _ _ (by decide)] at a; rw [upd_ne _ _ (by decide), upd_ne _ _ (by decide)]; exact h2.m9 v a
  · rw [upd_ne _ _ (by decide)] at a; exact h2.m10 v a
  · rw [upd_ne _ _ (by decide), upd_ne _ _ (by decide)] at c
    rcases upd_some a with ⟨-, rfl⟩ | ⟨e, -⟩
    · exact ne_new (h.lt c) rfl
    · exact absurd rfl e
  · rw [upd_ne _ _ (by decide)] at a b; exact h2.ap8 u v a b
theorem I2.step8 (h : I2 H1 W0 st C acc n g H w) (h8 : g 8 = none) (hm : n ≤ maxLen) : I2 H1 W0 st C acc n (upd g 8 (.slice (some ⟨w.heap.size, 0, none⟩) n n)) H (w.alloc (.cells (madeCells #[.int .i64 0] n) 3)) := by
  have h2 := h.alloc (.cells (madeCells #[.int .i64 0] n) 3)
  refine ⟨h2.hx, fun v a b => ?_, fun v a => ?_, fun v a => ?_, fun v a => ?_, fun v a => ?_, fun u v a b c => ?_, fun u v a b => ?_⟩
  · rw [upd_ne _ _ (by decide)] at a b; exact h2.m3 v a b
  · rw [upd_ne _ _ (by decide)] at a; exact h2.m6 v a
  · rcases upd_some a with ⟨-, rfl⟩ | ⟨e, -⟩
    · exact ⟨_, rfl, own_mk (k := kI .i64) h.hx.sat rfl rfl n hm h.hx.size⟩
    · exact absurd rfl e
  · rw [upd_ne _ _ (by decide)] at a
    obtain ⟨u6, u8, e6, e8, -⟩ := h2.m9 v a
    rw [h8] at e8; cases e8
  · rw [upd_ne _ _ (by decide)] at a; exact h2.m10 v a
  · rw [upd_ne _ _ (by decide)] at a b
    rw [upd_ne (j := 10) _ _ (by decide), upd_eq] at c
    rcases c with c | c
    · cases c; exact (ne_new (h.lt3 a b) rfl).symm
    · exact h2.ap3 u v a b (Or.inr c)
  · rw [upd_ne _ _ (by decide)] at b
    rcases upd_some a with ⟨-, rfl⟩ | ⟨e, -⟩
    · exact ne_new (h.lt (Or.inr b)) rfl
    · exact absurd rfl e
theorem I2.step10 (h : I2 H1 W0 st C acc n g H w) : I2 H1 W0 st C acc n (upd g 10 (.pointer (some ⟨w.heap.size, 0, none⟩))) H (w.alloc (.cells #[.int .i64 0, .int .i64 0, .slice none 0 0, .slice none 0 0, .slice none 0 0, .slice none 0 0] 85)) := by
  have h2 := h.alloc (.cells #[.int .i64 0, .int .i64 0, .slice none 0 0, .slice none 0 0, .slice none 0 0, .slice none 0 0] 85)
  refine ⟨h2.hx, fun v a b => ?_, fun v a => ?_, fun v a => ?_, fun v a => ?_, fun v a => ?_, fun u v a b c => ?_, fun u v a b => ?_⟩
  · rw [upd_ne _ _ (by decide)] at a b; exact h2.m3 v a b
  · rw [upd_ne _ _ (by decide)] at a; exact h2.m6 v a
  · rw [upd_ne _ _ (by decide)] at a; exact h2.m8 v a
  · rw [upd_ne _ _ (by decide)] at a; rw [upd_ne _ _ (by decide), upd_ne _ _ (by decide)]; exact h2.m9 v a
  · rcases upd_some a with ⟨-, rfl⟩ | ⟨e, -⟩
    · exact ⟨_, rfl, h.hx.size, fun o => h.hx.sat.new (Nat.le_refl _) o, boxN _ _⟩
    · exact absurd rfl e
  · rw [upd_ne _ _ (by decide)] at a b
    rw [upd_ne (j := 8) _ _ (by decide), upd_eq] at c
    rcases c with c | c
    · exact h2.ap3 u v a b (Or.inl c)
    · cases c; exact (ne_new (h.lt3 a b) rfl).symm
  · rw [upd_ne _ _ (by decide)] at a
    rcases upd_some b with ⟨-, rfl⟩ | ⟨e, -⟩
    · exact (ne_new (h.lt (Or.inl a)) rfl).symm
    · exact absurd rfl e
theorem I2.step9 (h : I2 H1 W0 st C acc n g H w) {u6 u8 : Value} (h6 : g 6 = some u6) (h8 : g 8 = some u8) : I2 H1 W0 st C acc n (upd g 9 (.agg #[.int .i64 st, .int .i64 C, u6, u8, .slice none 0 0, .slice none 0 0])) H w := by
  refine ⟨h.hx, fun v a b => ?_, fun v a => ?_, fun v a => ?_, fun v a => ?_, fun v a => ?_, fun u v a b c => ?_, fun u v a b => ?_⟩
  · rw [upd_ne _ _ (by decide)] at b; rw [h6] at b; cases b
  · rw [upd_ne _ _ (by decide)] at a; exact h.m6 v a
  · rw [upd_ne _ _ (by decide)] at a; exact h.m8 v a
  · rw [upd_ne _ _ (by decide), upd_ne _ _ (by decide)]
    rcases upd_some a with ⟨-, rfl⟩ | ⟨e, -⟩
    · exact ⟨u6, u8, h6, h8, rfl⟩
    · exact absurd rfl e
  · rw [upd_ne _ _ (by decide)] at a; exact h.m10 v a
  · rw [upd_ne _ _ (by decide)] at b; rw [h6] at b; cases b
  · rw [upd_ne _ _ (by decide)] at a b; exact h.ap8 u v a b
/-- the accepted, copied -/
theorem I2.step6 (h : I2 H1 W0 st C acc n g H w) {v3 v6 : Value} (h3 : g 3 = some v3) (h6 : g 6 = none) (ho : Own (kI .i64) 3 w' W0.heap.size H v6 acc) (hg : w.grownBy w' v3.ownBlock) (hn : New w v3 v6) (hl : acc.length ≤ 140737488355328) :
    ∃ H', H.le H' ∧ I2 H1 W0 st C acc n (upd g 6 v6) H' w' := by
  have o3 := (h.m3 v3 h3 h6).2
  have hx' := o3.extG h.hx (Nat.le_refl _) hg
  obtain ⟨H', hx2, hle, ⟨A, c, e1, hs⟩, hold⟩ := ho.freezeE hx' (Nat.le_refl _) hl
  cases e1
  have hfar : ∀ u b, (g 8 = some u ∨ g 10 = some u) → blkOf u = some b → v3.ownBlock ≠ some b ∧ (Value.slice A acc.length c).ownBlock ≠ some b := fun u b hu hb => by
    have h1 := h.ap3 v3 u h3 h6 hu
    obtain ⟨⟨b3, rfl⟩, -⟩ := h.m3 v3 h3 h6
    have h2 := h.lt hu b hb
    have h4 : b3 ≠ b := fun e => h1 (by rw [hb, ← e]; rfl)
    refine ⟨fun e => h4 (by simpa [Value.ownBlock] using e), fun e => ?_⟩
    rcases hn b e with h5 | h5
    · exact h4 (by simpa [Value.ownBlock] using h5)
    · omega
  refine ⟨H', hle, hx2, fun v a b => ?_, fun v a => ?_, fun v a => ?_, fun v a => ?_, fun v a => ?_, fun u v a b c => ?_, fun u v a b => ?_⟩
  · rw [upd_eq] at b; cases b
  · rcases upd_some a with ⟨-, rfl⟩ | ⟨e, -⟩
    · exact ⟨_, _, rfl, hs⟩
    · exact absurd rfl e
  · rw [upd_ne _ _ (by decide)] at a
    obtain ⟨b, rfl, ho8⟩ := h.m8 v a
    obtain ⟨q1, q2⟩ := hfar _ b (Or.inl a) rfl
    refine ⟨b, rfl, (ho8.grown hg (Or.inr fun e => q1 e.symm)).keep hle fun bb hb => ⟨rfl, fun o => ?_⟩⟩
    have : bb = b := by simpa [Value.ownBlock] using hb.symm
    subst this
    rw [hold _ o q2]
    exact (ho8.blk (b := bb) rfl).2.2 o
  · rw [upd_ne _ _ (by decide)] at a
    obtain ⟨u6, u8, e6, -⟩ := h.m9 v a
    rw [h6] at e6; cases e6
  · rw [upd_ne _ _ (by decide)] at a
    obtain ⟨b, rfl, h1, h2, hk⟩ := h.m10 v a
    obtain ⟨q1, q2⟩ := hfar _ b (Or.inr a) rfl
    exact ⟨b, rfl, h1, fun o => by rw [hold _ o q2]; exact h2 o, boxG hk hg q1⟩
  · rw [upd_eq] at b; cases b
  · rw [upd_ne _ _ (by decide)] at a b; exact h.ap8 u v a b
end
end Go.Proofs.Ytbnahmeaeakhhaa.B

namespace Go.Proofs.Ytbnahmeaeakhhaa.B
set_option linter.unusedVariables false
set_option linter.unusedSimpArgs false
open Go Go.RowKit Go.Proofs.Ytbnahmeaeakhhaa.Q Go.Proofs.Ytbnahmeaeakhhaa.S Classical

def lenS : Value → Nat | .slice _ n _ => n | _ => 0
/-- the table of the reference -/
noncomputable def refT (st : Int) (acc : List Int) (next : List (List Int)) : Tab :=
  ⟨st, ((next.getD 0 []).length : Int), acc, (packGo next (bigs next (next.getD 0 []).length (next.getD 0 []).length)).1, (packGo next (bigs next (next.getD 0 []).length (next.getD 0 []).length)).2.1, (packGo next (bigs next (next.getD 0 []).length (next.getD 0 []).length)).2.2⟩
theorem infoP : (Try.prog.info? 33).map (fun i => (i.zero, i.size, i.bytes)) = some (some (.agg #[.int .i64 0, .int .i64 0]), 2, 16) := by kernel_rfl
theorem sizeP : ∀ w, (Go.sizeOf 33).run Try.prog w = .ok 2 w := fun w => by kernel_rfl

set_option maxRecDepth 100000 in
set_option maxHeartbeats 32000000 in
theorem packOf_any (H : PH) (st : Int) (acc : List Int) (next : List (List Int)) (A1 A2 : Option Addr) (c1 c2 : Nat) (w : World) (h1 : SlR (kI .i64) H A1 acc.length c1 acc) (h2 : SlR (kS (kI .i64)) H A2 next.length c2 next) (hs : Sat w H) (h0 : dfaErr st acc next = 0) :
    Calls Try.prog 59 #[.agg #[.int .i64 st, .slice A1 acc.length c1, .slice A2 next.length c2]] w fun e w' => ∃ H' cs, e = .returned (.agg cs.toArray) ∧ RdTab H' (refT st acc next) cs ∧ Ext H H' w w' := by
  have OK := Aside.mk (dfaErr_ok h0)
  clear h0
  have hx := Aside.mk (Ext.refl hs)
  replace h1 := Aside.mk h1
  replace h2 := Aside.mk h2
  obtain ⟨n, hn⟩ : ∃ n, n = next.length := ⟨_, rfl⟩
  have hnb : 0 < n ∧ n ≤ 200 := by have := OK.out; omega
  have hal : acc.length = n := by have := OK.out; omega
  obtain ⟨C, hC⟩ : ∃ C, C = (next.getD 0 []).length := ⟨_, rfl⟩
  have hCb : 0 < C ∧ C ≤ 16 := by have := OK.out; omega
  have hform : Aside (rowsForm C next 0) := ⟨by rw [hC]; exact OK.out.2.2.2.2.2.1⟩
  rw [← hn] at h2 ⊢
  replace hn := Aside.mk hn
  replace hC := Aside.mk hC
  replace hal := Aside.mk hal
  have hrl := Aside.mk (fun i (hi : i < n) => show (next.getD i []).length = C from (hform.out i (Nat.zero_le _) (by rw [← hn.out]; exact hi)).1)
  go_enter Try.func59, Try.ntmps59
  go_wp2_with fail
  have hszw := hx.out.size
  have kd_ : ((w.alloc (.cells #[.int .i64 st, .slice A1 acc.length c1, .slice A2 n c2] 58)).alloc (.cells #[.int .i64 0, .int .i64 0, .slice none 0 0, .slice none 0 0, .slice none 0 0, .slice none 0 0] 85)).heap[w.heap.size]? = some (.cells #[.int .i64 st, .slice A1 acc.length c1, .slice A2 n c2] 58) := (boxA (heap_alloc_new _ _) (.cells #[.int .i64 0, .int .i64 0, .slice none 0 0, .slice none 0 0, .slice none 0 0, .slice none 0 0] 85))
  have kz_ : ((w.alloc (.cells #[.int .i64 st, .slice A1 acc.length c1, .slice A2 n c2] 58)).alloc (.cells #[.int .i64 0, .int .i64 0, .slice none 0 0, .slice none 0 0, .slice none 0 0, .slice none 0 0] 85)).heap[w.heap.size + 1]? = some (.cells #[.int .i64 0, .int .i64 0, .slice none 0 0, .slice none 0 0, .slice none 0 0, .slice none 0 0] 85) := (by rw [show w.heap.size + 1 = ((w.alloc (.cells #[.int .i64 st, .slice A1 acc.length c1, .slice A2 n c2] 58))).heap.size by simp]; exact heap_alloc_new _ _)
  have nd := Aside.mk (fun o => hx.out.sat.new (b := w.heap.size) (show w.heap.size ≤ _ by omega) o)
  have nz := Aside.mk (fun o => hx.out.sat.new (b := w.heap.size + 1) (show w.heap.size ≤ _ by omega) o)
  replace hx := Aside.mk (((hx.out.alloc (.cells #[.int .i64 st, .slice A1 acc.length c1, .slice A2 n c2] 58)).alloc (.cells #[.int .i64 0, .int .i64 0, .slice none 0 0, .slice none 0 0, .slice none 0 0, .slice none 0 0] 85)))
  generalize ((w.alloc (.cells #[.int .i64 st, .slice A1 acc.length c1, .slice A2 n c2] 58)).alloc (.cells #[.int .i64 0, .int .i64 0, .slice none 0 0, .slice none 0 0, .slice none 0 0, .slice none 0 0] 85)) = W1 at *
  have kd := Aside.mk kd_
  clear kd_
  have kz := Aside.mk kz_
  clear kz_
  obtain ⟨H1, hx2, hle, Bd, hold⟩ := box_freeze hx.out (by omega) kd.out nd.out
  replace h1 := Aside.mk (h1.out.mono hle)
  replace h2 := Aside.mk (h2.out.mono hle)
  replace nz := Aside.mk (fun o => (hold _ o (by omega)).trans (nz.out o))
  replace hx := Aside.mk hx2
  replace Bd := Aside.mk Bd
  clear hle hold hx2 kd nd
  obtain ⟨b2, off2, Ar, cr, hA2, hr0, -⟩ := h2.out.rowD hx.out.sat 0 (by rw [← hn.out]; exact hnb.1)
  subst hA2
  rw [Nat.add_zero, ← hC.out] at hr0
  have lqz : w.heap.size + 1 < W1.heap.size := boxL kz.out
  have cz0 : W1.cell? ⟨w.heap.size + 1, 0, none⟩ = some (.int .i64 0) := (boxC kz.out 0).1
  have fz0 : W1.frozen? ⟨w.heap.size + 1, 0, none⟩ = false := (boxC kz.out 0).2
  have cz1 : W1.cell? ⟨w.heap.size + 1, 1, none⟩ = some (.int .i64 0) := (boxC kz.out 1).1
  have fz1 : W1.frozen? ⟨w.heap.size + 1, 1, none⟩ = false := (boxC kz.out 1).2
  have cz2 : W1.cell? ⟨w.heap.size + 1, 2, none⟩ = some (.slice none 0 0) := (boxC kz.out 2).1
  have fz2 : W1.frozen? ⟨w.heap.size + 1, 2, none⟩ = false := (boxC kz.out 2).2
  have cz3 : W1.cell? ⟨w.heap.size + 1, 3, none⟩ = some (.slice none 0 0) := (boxC kz.out 3).1
  have fz3 : W1.frozen? ⟨w.heap.size + 1, 3, none⟩ = false := (boxC kz.out 3).2
  have cz4 : W1.cell? ⟨w.heap.size + 1, 4, none⟩ = some (.slice none 0 0) := (boxC kz.out 4).1
  have fz4 : W1.frozen? ⟨w.heap.size + 1, 4, none⟩ = false := (boxC kz.out 4).2
  have cz5 : W1.cell? ⟨w.heap.size + 1, 5, none⟩ = some (.slice none 0 0) := (boxC kz.out 5).1
  have fz5 : W1.frozen? ⟨w.heap.size + 1, 5, none⟩ = false := (boxC kz.out 5).2
  have lqd : w.heap.size < W1.heap.size := hx.out.sat.lt (Bd.out 0 _ rfl)
  have cd0 : W1.cell? ⟨w.heap.size, 0, none⟩ = some (.int .i64 st) := hx.out.sat _ _ _ (Bd.out 0 _ rfl)
  have cd1 : W1.cell? ⟨w.heap.size, 1, none⟩ = some (.slice A1 acc.length c1) := hx.out.sat _ _ _ (Bd.out 1 _ rfl)
  have cd2 : W1.cell? ⟨w.heap.size, 2, none⟩ = some (.slice (some ⟨b2, off2, none⟩) n c2) := hx.out.sat _ _ _ (Bd.out 2 _ rfl)
  have hn0 : (0 : Int) < (n : Int) := by omega
  go_upto_region 2 with (go_quiet (fail))
  clear lqz cz0 fz0 cz1 fz1 cz2 fz2 cz3 fz3 cz4 fz4 cz5 fz5 lqd cd0 cd1 cd2
  clear hr0
  replace hx := Aside.mk (hx.out.drewN nq)
  replace kz := Aside.mk (show (W1.drewN nq).heap[w.heap.size + 1]? = some (.cells #[.int .i64 0, .int .i64 0, .slice none 0 0, .slice none 0 0, .slice none 0 0, .slice none 0 0] 85) from kz.out)
  generalize W1.drewN nq = W2 at *
  refine region_I (I2 H1 W2 st C acc n) [3, 6, 8, 9, 10] 11 [26, 27, 28, 29, 30, 31, 32, 33, 34, 35, 5] (by kernel_rfl) (by kernel_rfl) (by kernel_rfl) (by kernel_rfl) (I2.start hx.out.sat) ?_
  refine regI_val (d := 26) (v := ?_) rfl rfl (Or.inl rfl) (fun ρ g wρ Hρ hρ => ?_) ?_; rotate_left
  · have k_c := hρ.const; have k_1 : ρ (.tmp 1) = .pointer (some ⟨w.heap.size, 0, none⟩) := hρ.old 1 (by kernel_rfl); (go_simp <;> with_reducible rfl)
  refine regI_val (d := 27) (v := ?_) rfl rfl (Or.inl rfl) (fun ρ g wρ Hρ hρ => ?_) ?_; rotate_left
  · have k_c := hρ.const; have k_26 : ρ (.tmp 26) = _ := hρ.dep 26 (by kernel_rfl); have p := hρ.inv.hx.sat _ _ _ (Bd.out.mono hρ.inv.hx.le 0 _ rfl); (go_simp <;> with_reducible rfl)
  refine regI_val (d := 28) (v := ?_) rfl rfl (Or.inl rfl) (fun ρ g wρ Hρ hρ => ?_) ?_; rotate_left
  · have k_c := hρ.const; have k_4 : ρ (.tmp 4) = .int .i64 C := hρ.old 4 (by kernel_rfl); (go_simp <;> with_reducible rfl)
  refine regI_run (d := 29) (.any (fun _ _ => True) (fun _ _ _ _ h => h)) rfl rfl (Or.inl rfl) (fun ρ g wρ Hρ hρ => ?_) ?_
  · have k_c := hρ.const; exact ⟨_, _, _, (by go_simp <;> rfl), PH.le_refl _, hρ.inv.step3, trivial⟩
  refine regI_val (d := 30) (v := ?_) rfl rfl (Or.inl rfl) (fun ρ g wρ Hρ hρ => ?_) ?_; rotate_left
  · have k_c := hρ.const; have k_1 : ρ (.tmp 1) = .pointer (some ⟨w.heap.size, 0, none⟩) := hρ.old 1 (by kernel_rfl); (go_simp <;> with_reducible rfl)
  refine regI_val (d := 31) (v := ?_) rfl rfl (Or.inl rfl) (fun ρ g wρ Hρ hρ => ?_) ?_; rotate_left
  · have k_c := hρ.const; have k_30 : ρ (.tmp 30) = _ := hρ.dep 30 (by kernel_rfl); have p := hρ.inv.hx.sat _ _ _ (Bd.out.mono hρ.inv.hx.le 1 _ rfl); (go_simp <;> with_reducible rfl)
  refine regI_mark (d := 32) (.any (fun _ _ => True) (fun _ _ _ _ h => h)) rfl rfl (Or.inl rfl) (fun a_ g wρ Hρ hρ => ?_) ?_
  · have k_c := hρ.const; have k_31 : a_.eval (.tmp 31) = _ := hρ.dep 31 (by kernel_rfl); obtain ⟨v3, g3, e3⟩ := hρ.done 3 (by kernel_rfl) rfl; have k_29 := e3 29 (by kernel_rfl); refine wp_appS (kI .i64) (.tmp 29) (.tmp 31) 26 rfl 3 Try.underlying26 infoQ rfl k_29 (hρ.inv.m3 v3 g3 hρ.here).2 hρ.inv.hx.sat (h1.out.mono hρ.inv.hx.le) k_31 (by have := hal.out; simp; omega) (by have := hal.out; unfold maxLen; simp; omega) hρ.inv.hx.size ?_; intro v9 w9 ho9 hg9 hs9 hn9; obtain ⟨H9, hle9, hI9⟩ := hρ.inv.step6 g3 hρ.here (by simpa using ho9) hg9 hn9 (by have := hal.out; omega); exact ⟨_, H9, rfl, hle9, hI9, trivial⟩
  refine regI_val (d := 33) (v := ?_) rfl rfl (Or.inl rfl) (fun ρ g wρ Hρ hρ => ?_) ?_; rotate_left
  · have k_c := hρ.const; have k_3 : ρ (.tmp 3) = .int .i64 n := hρ.old 3 (by kernel_rfl); (go_simp <;> with_reducible rfl)
  refine regI_run (d := 34) (.any (fun _ _ => True) (fun _ _ _ _ h => h)) rfl rfl (Or.inl rfl) (fun ρ g wρ Hρ hρ => ?_) ?_
  · have k_c := hρ.const; have k_33 : ρ (.tmp 33) = _ := hρ.dep 33 (by kernel_rfl); have hr := fun W => run_mk (P := Try.prog) 26 3 Try.underlying26 infoQ rfl n (by omega) (by unfold maxLen; omega) (n : Int) rfl W; exact ⟨_, _, _, (by unfold execOp; simp only [Sem.run_bind, Sem.run_pure, Result.andThen_ok, k_33, hr]), PH.le_refl _, hρ.inv.step8 hρ.here (by unfold maxLen; omega), trivial⟩
  refine regI_run (d := 35) (.any (fun _ _ => True) (fun _ _ _ _ h => h)) rfl rfl (Or.inl rfl) (fun ρ g wρ Hρ hρ => ?_) ?_
  · have k_c := hρ.const; have k_27 : ρ (.tmp 27) = _ := hρ.dep 27 (by kernel_rfl); have k_28 : ρ (.tmp 28) = _ := hρ.dep 28 (by kernel_rfl); obtain ⟨v6, g6, e6⟩ := hρ.done 6 (by kernel_rfl) rfl; obtain ⟨v8, g8, e8⟩ := hρ.done 8 (by kernel_rfl) rfl; have k_32 := e6 32 (by kernel_rfl); have k_34 := e8 34 (by kernel_rfl); have hI := hρ.inv.step9 g6 g8; obtain ⟨A6, c6, rfl, -⟩ := hρ.inv.m6 v6 g6; obtain ⟨b8, rfl, -⟩ := hρ.inv.m8 v8 g8; exact ⟨_, _, _, (by go_simp <;> rfl), PH.le_refl _, hI, trivial⟩
  refine regI_run (d := 5) (.any (fun _ _ => True) (fun _ _ _ _ h => h)) rfl rfl (Or.inl rfl) (fun ρ g wρ Hρ hρ => ?_) ?_
  · have k_c := hρ.const; exact ⟨_, _, _, (by go_simp <;> rfl), PH.le_refl _, hρ.inv.step10, trivial⟩
  intro vs wv Hv gv hv F G
  obtain ⟨v8, g8, e8⟩ := G 8 (by decide) rfl
  obtain ⟨v9, g9, e9⟩ := G 9 (by decide) rfl
  obtain ⟨v10, g10, e10⟩ := G 10 (by decide) rfl
  have k_35 := e9 35 (by kernel_rfl)
  have k_5 := e10 5 (by kernel_rfl)
  obtain ⟨u6, u8, q6, q8, rfl⟩ := hv.m9 v9 g9
  have hap := hv.ap8 v8 v10 g8 g10
  obtain ⟨Aa, ca, rfl, hacc⟩ := hv.m6 u6 q6
  rw [g8] at q8
  obtain rfl := Option.some.inj q8
  obtain ⟨gb, rfl, hob⟩ := hv.m8 v8 g8
  obtain ⟨tb, rfl, htW, ntb, ktb⟩ := hv.m10 v10 g10
  have hgt : gb ≠ tb := fun e => hap (by rw [e]; rfl)
  have hx2 := hv.hx
  clear q8 q6 g8 g9 g10 e8 e9 e10 hap G F hv
  simp only [setAll, List.setIfInBounds_toArray, List.set_cons_zero, List.set_cons_succ, k_35, k_5, List.drop_succ_cons, List.drop_zero]
  replace hacc := Aside.mk hacc
  replace hob := Aside.mk hob
  have hzz := boxL kz.out
  replace hob := Aside.mk (hob.out.rebase (base' := w.heap.size + 2) (by omega))
  have htW2 : w.heap.size + 2 ≤ tb := by omega
  have hgb2 : w.heap.size + 2 ≤ gb := (hob.out.blk (b := gb) rfl).1
  clear htW hzz
  have hle := hx2.le
  replace h1 := Aside.mk (h1.out.mono hle)
  replace h2 := Aside.mk (h2.out.mono hle)
  replace Bd := Aside.mk (Bd.out.mono hle)
  replace nz := Aside.mk (fun o => (hx2.old _ o (boxL kz.out)).trans (nz.out o))
  replace kz := Aside.mk (box_below kz.out hx2.below)
  replace hx := Aside.mk (hx.out.trans hx2)
  clear hle hx2
  have kt := Aside.mk ktb
  have nt := Aside.mk ntb
  clear ktb ntb
  obtain ⟨M, hM1, hM2, hM3⟩ : ∃ M, tb < M ∧ gb < M ∧ (M = tb + 1 ∨ M = gb + 1) := by
      rcases Nat.lt_or_ge tb gb with h | h
      · exact ⟨gb + 1, by omega, by omega, Or.inr rfl⟩
      · exact ⟨tb + 1, by omega, by omega, Or.inl rfl⟩
  clear h1
  have lqz : w.heap.size + 1 < wv.heap.size := boxL kz.out
  have cz0 : wv.cell? ⟨w.heap.size + 1, 0, none⟩ = some (.int .i64 0) := (boxC kz.out 0).1
  have fz0 : wv.frozen? ⟨w.heap.size + 1, 0, none⟩ = false := (boxC kz.out 0).2
  have cz1 : wv.cell? ⟨w.heap.size + 1, 1, none⟩ = some (.int .i64 0) := (boxC kz.out 1).1
  have fz1 : wv.frozen? ⟨w.heap.size + 1, 1, none⟩ = false := (boxC kz.out 1).2
  have cz2 : wv.cell? ⟨w.heap.size + 1, 2, none⟩ = some (.slice none 0 0) := (boxC kz.out 2).1
  have fz2 : wv.frozen? ⟨w.heap.size + 1, 2, none⟩ = false := (boxC kz.out 2).2
  have cz3 : wv.cell? ⟨w.heap.size + 1, 3, none⟩ = some (.slice none 0 0) := (boxC kz.out 3).1
  have fz3 : wv.frozen? ⟨w.heap.size + 1, 3, none⟩ = false := (boxC kz.out 3).2
  have cz4 : wv.cell? ⟨w.heap.size + 1, 4, none⟩ = some (.slice none 0 0) := (boxC kz.out 4).1
  have fz4 : wv.frozen? ⟨w.heap.size + 1, 4, none⟩ = false := (boxC kz.out 4).2
  have cz5 : wv.cell? ⟨w.heap.size + 1, 5, none⟩ = some (.slice none 0 0) := (boxC kz.out 5).1
  have fz5 : wv.frozen? ⟨w.heap.size + 1, 5, none⟩ = false := (boxC kz.out 5).2
  have lqt : tb < wv.heap.size := boxL kt.out
  have ct0 : wv.cell? ⟨tb, 0, none⟩ = some (.int .i64 0) := (boxC kt.out 0).1
  have ft0 : wv.frozen? ⟨tb, 0, none⟩ = false := (boxC kt.out 0).2
  have ct1 : wv.cell? ⟨tb, 1, none⟩ = some (.int .i64 0) := (boxC kt.out 1).1
  have ft1 : wv.frozen? ⟨tb, 1, none⟩ = false := (boxC kt.out 1).2
  have ct2 : wv.cell? ⟨tb, 2, none⟩ = some (.slice none 0 0) := (boxC kt.out 2).1
  have ft2 : wv.frozen? ⟨tb, 2, none⟩ = false := (boxC kt.out 2).2
  have ct3 : wv.cell? ⟨tb, 3, none⟩ = some (.slice none 0 0) := (boxC kt.out 3).1
  have ft3 : wv.frozen? ⟨tb, 3, none⟩ = false := (boxC kt.out 3).2
  have ct4 : wv.cell? ⟨tb, 4, none⟩ = some (.slice none 0 0) := (boxC kt.out 4).1
  have ft4 : wv.frozen? ⟨tb, 4, none⟩ = false := (boxC kt.out 4).2
  have ct5 : wv.cell? ⟨tb, 5, none⟩ = some (.slice none 0 0) := (boxC kt.out 5).1
  have ft5 : wv.frozen? ⟨tb, 5, none⟩ = false := (boxC kt.out 5).2
  have lqd : w.heap.size < wv.heap.size := hx.out.sat.lt (Bd.out 0 _ rfl)
  have cd0 : wv.cell? ⟨w.heap.size, 0, none⟩ = some (.int .i64 st) := hx.out.sat _ _ _ (Bd.out 0 _ rfl)
  have cd1 : wv.cell? ⟨w.heap.size, 1, none⟩ = some (.slice A1 acc.length c1) := hx.out.sat _ _ _ (Bd.out 1 _ rfl)
  have cd2 : wv.cell? ⟨w.heap.size, 2, none⟩ = some (.slice (some ⟨b2, off2, none⟩) n c2) := hx.out.sat _ _ _ (Bd.out 2 _ rfl)
  go_wp2_with fail
  clear lqz cz0 fz0 cz1 fz1 cz2 fz2 cz3 fz3 cz4 fz4 cz5 fz5 lqt ct0 ft0 ct1 ft1 ct2 ft2 ct3 ft3 ct4 ft4 ct5 ft5 lqd cd0 cd1 cd2
  have hsz := hx.out.size
  have kz_ : ((((((wv.setCell ⟨tb, 0, none⟩ (.int .i64 st)).setCell ⟨tb, 1, none⟩ (.int .i64 C)).setCell ⟨tb, 2, none⟩ (.slice Aa acc.length ca)).setCell ⟨tb, 3, none⟩ (.slice (some ⟨gb, 0, none⟩) n n)).setCell ⟨tb, 4, none⟩ (.slice none 0 0)).setCell ⟨tb, 5, none⟩ (.slice none 0 0)).heap[w.heap.size + 1]? = some (.cells #[.int .i64 0, .int .i64 0, .slice none 0 0, .slice none 0 0, .slice none 0 0, .slice none 0 0] 85) := (boxS_ne (boxS_ne (boxS_ne (boxS_ne (boxS_ne (boxS_ne kz.out (by first | omega | (simp; omega)) 0 (.int .i64 st)) (by first | omega | (simp; omega)) 1 (.int .i64 C)) (by first | omega | (simp; omega)) 2 (.slice Aa acc.length ca)) (by first | omega | (simp; omega)) 3 (.slice (some ⟨gb, 0, none⟩) n n)) (by first | omega | (simp; omega)) 4 (.slice none 0 0)) (by first | omega | (simp; omega)) 5 (.slice none 0 0))
  have kt_ : ((((((wv.setCell ⟨tb, 0, none⟩ (.int .i64 st)).setCell ⟨tb, 1, none⟩ (.int .i64 C)).setCell ⟨tb, 2, none⟩ (.slice Aa acc.length ca)).setCell ⟨tb, 3, none⟩ (.slice (some ⟨gb, 0, none⟩) n n)).setCell ⟨tb, 4, none⟩ (.slice none 0 0)).setCell ⟨tb, 5, none⟩ (.slice none 0 0)).heap[tb]? = some (.cells #[.int .i64 st, .int .i64 C, .slice Aa acc.length ca, .slice (some ⟨gb, 0, none⟩) n n, .slice none 0 0, .slice none 0 0] 85) := (boxS (boxS (boxS (boxS (boxS (boxS kt.out 0 (.int .i64 st)) 1 (.int .i64 C)) 2 (.slice Aa acc.length ca)) 3 (.slice (some ⟨gb, 0, none⟩) n n)) 4 (.slice none 0 0)) 5 (.slice none 0 0))
  replace hob := Aside.mk ((((((hob.out.grown (grownBy_setCell _ (tb) 0 (.int .i64 st)) (Or.inr (fun e => by first | (have h1 := (hob.out.blk e).1; omega) | (simp [Value.ownBlock] at e; done) | (simp [Value.ownBlock] at e; omega)))).grown (grownBy_setCell _ (tb) 1 (.int .i64 C)) (Or.inr (fun e => by first | (have h1 := (hob.out.blk e).1; omega) | (simp [Value.ownBlock] at e; done) | (simp [Value.ownBlock] at e; omega)))).grown (grownBy_setCell _ (tb) 2 (.slice Aa acc.length ca)) (Or.inr (fun e => by first | (have h1 := (hob.out.blk e).1; omega) | (simp [Value.ownBlock] at e; done) | (simp [Value.ownBlock] at e; omega)))).grown (grownBy_setCell _ (tb) 3 (.slice (some ⟨gb, 0, none⟩) n n)) (Or.inr (fun e => by first | (have h1 := (hob.out.blk e).1; omega) | (simp [Value.ownBlock] at e; done) | (simp [Value.ownBlock] at e; omega)))).grown (grownBy_setCell _ (tb) 4 (.slice none 0 0)) (Or.inr (fun e => by first | (have h1 := (hob.out.blk e).1; omega) | (simp [Value.ownBlock] at e; done) | (simp [Value.ownBlock] at e; omega)))).grown (grownBy_setCell _ (tb) 5 (.slice none 0 0)) (Or.inr (fun e => by first | (have h1 := (hob.out.blk e).1; omega) | (simp [Value.ownBlock] at e; done) | (simp [Value.ownBlock] at e; omega))))
  replace hx := Aside.mk (((((((hx.out.setCell (b := tb) (o := 0) (by first | omega | (simp; omega)) nt.out (.int .i64 st)).setCell (b := tb) (o := 1) (by first | omega | (simp; omega)) nt.out (.int .i64 C)).setCell (b := tb) (o := 2) (by first | omega | (simp; omega)) nt.out (.slice Aa acc.length ca)).setCell (b := tb) (o := 3) (by first | omega | (simp; omega)) nt.out (.slice (some ⟨gb, 0, none⟩) n n)).setCell (b := tb) (o := 4) (by first | omega | (simp; omega)) nt.out (.slice none 0 0)).setCell (b := tb) (o := 5) (by first | omega | (simp; omega)) nt.out (.slice none 0 0)))
  generalize ((((((wv.setCell ⟨tb, 0, none⟩ (.int .i64 st)).setCell ⟨tb, 1, none⟩ (.int .i64 C)).setCell ⟨tb, 2, none⟩ (.slice Aa acc.length ca)).setCell ⟨tb, 3, none⟩ (.slice (some ⟨gb, 0, none⟩) n n)).setCell ⟨tb, 4, none⟩ (.slice none 0 0)).setCell ⟨tb, 5, none⟩ (.slice none 0 0)) = W3 at *
  replace kz := Aside.mk kz_
  clear kz_
  replace kt := Aside.mk kt_
  clear kt_
  have lqz : w.heap.size + 1 < W3.heap.size := boxL kz.out
  have cz0 : W3.cell? ⟨w.heap.size + 1, 0, none⟩ = some (.int .i64 0) := (boxC kz.out 0).1
  have fz0 : W3.frozen? ⟨w.heap.size + 1, 0, none⟩ = false := (boxC kz.out 0).2
  have cz1 : W3.cell? ⟨w.heap.size + 1, 1, none⟩ = some (.int .i64 0) := (boxC kz.out 1).1
  have fz1 : W3.frozen? ⟨w.heap.size + 1, 1, none⟩ = false := (boxC kz.out 1).2
  have cz2 : W3.cell? ⟨w.heap.size + 1, 2, none⟩ = some (.slice none 0 0) := (boxC kz.out 2).1
  have fz2 : W3.frozen? ⟨w.heap.size + 1, 2, none⟩ = false := (boxC kz.out 2).2
  have cz3 : W3.cell? ⟨w.heap.size + 1, 3, none⟩ = some (.slice none 0 0) := (boxC kz.out 3).1
  have fz3 : W3.frozen? ⟨w.heap.size + 1, 3, none⟩ = false := (boxC kz.out 3).2
  have cz4 : W3.cell? ⟨w.heap.size + 1, 4, none⟩ = some (.slice none 0 0) := (boxC kz.out 4).1
  have fz4 : W3.frozen? ⟨w.heap.size + 1, 4, none⟩ = false := (boxC kz.out 4).2
  have cz5 : W3.cell? ⟨w.heap.size + 1, 5, none⟩ = some (.slice none 0 0) := (boxC kz.out 5).1
  have fz5 : W3.frozen? ⟨w.heap.size + 1, 5, none⟩ = false := (boxC kz.out 5).2
  have lqt : tb < W3.heap.size := boxL kt.out
  have ct0 : W3.cell? ⟨tb, 0, none⟩ = some (.int .i64 st) := (boxC kt.out 0).1
  have ft0 : W3.frozen? ⟨tb, 0, none⟩ = false := (boxC kt.out 0).2
  have ct1 : W3.cell? ⟨tb, 1, none⟩ = some (.int .i64 C) := (boxC kt.out 1).1
  have ft1 : W3.frozen? ⟨tb, 1, none⟩ = false := (boxC kt.out 1).2
  have ct2 : W3.cell? ⟨tb, 2, none⟩ = some (.slice Aa acc.length ca) := (boxC kt.out 2).1
  have ft2 : W3.frozen? ⟨tb, 2, none⟩ = false := (boxC kt.out 2).2
  have ct3 : W3.cell? ⟨tb, 3, none⟩ = some (.slice (some ⟨gb, 0, none⟩) n n) := (boxC kt.out 3).1
  have ft3 : W3.frozen? ⟨tb, 3, none⟩ = false := (boxC kt.out 3).2
  have ct4 : W3.cell? ⟨tb, 4, none⟩ = some (.slice none 0 0) := (boxC kt.out 4).1
  have ft4 : W3.frozen? ⟨tb, 4, none⟩ = false := (boxC kt.out 4).2
  have ct5 : W3.cell? ⟨tb, 5, none⟩ = some (.slice none 0 0) := (boxC kt.out 5).1
  have ft5 : W3.frozen? ⟨tb, 5, none⟩ = false := (boxC kt.out 5).2
  have lqd : w.heap.size < W3.heap.size := hx.out.sat.lt (Bd.out 0 _ rfl)
  have cd0 : W3.cell? ⟨w.heap.size, 0, none⟩ = some (.int .i64 st) := hx.out.sat _ _ _ (Bd.out 0 _ rfl)
  have cd1 : W3.cell? ⟨w.heap.size, 1, none⟩ = some (.slice A1 acc.length c1) := hx.out.sat _ _ _ (Bd.out 1 _ rfl)
  have cd2 : W3.cell? ⟨w.heap.size, 2, none⟩ = some (.slice (some ⟨b2, off2, none⟩) n c2) := hx.out.sat _ _ _ (Bd.out 2 _ rfl)
  go_wp2_with fail
  clear lqz cz0 fz0 cz1 fz1 cz2 fz2 cz3 fz3 cz4 fz4 cz5 fz5 lqt ct0 ft0 ct1 ft1 ct2 ft2 ct3 ft3 ct4 ft4 ct5 ft5 lqd cd0 cd1 cd2
  go_loopw [6, 7] (fun s6 s7 wr => ∃ (j : Nat) (As : Option Addr) (cs : Nat) (L : List (Int × Int)) (lb : List Int) (Hk : PH), j ≤ C ∧ s6 = .slice As L.length cs ∧ s7 = .int .i64 ((C : Int) - j) ∧ Aside (lb = (packGo next (bigs next C j)).1 ∧ Same2 L (packGo next (bigs next C j)).2 ∧ L.length ≤ (bigs next C j).length * C) ∧ Aside (Ext H Hk w wr) ∧ Aside (SlR (kS (kI .i64)) Hk (some ⟨b2, off2, none⟩) n c2 next) ∧ Aside (SlR (kI .i64) Hk Aa acc.length ca acc) ∧ Aside (BoxH Hk (w.heap.size) [.int .i64 st, .slice A1 acc.length c1, .slice (some ⟨b2, off2, none⟩) n c2]) ∧ Aside (wr.heap[w.heap.size + 1]? = some (.cells #[.int .i64 0, .int .i64 0, .slice none 0 0, .slice none 0 0, .slice none 0 0, .slice none 0 0] 85)) ∧ Aside (∀ o, Hk (w.heap.size + 1) o = none) ∧ Aside (wr.heap[tb]? = some (.cells #[.int .i64 st, .int .i64 C, .slice Aa acc.length ca, .slice (some ⟨gb, 0, none⟩) n n, .slice none 0 0, .slice none 0 0] 85)) ∧ Aside (∀ o, Hk (tb) o = none) ∧ Aside (Own (kI .i64) 3 wr ((w.heap.size + 2)) Hk (.slice (some ⟨gb, 0, none⟩) n n) (lb)) ∧ Aside (Own kP 33 wr (M) Hk (.slice As L.length cs) (L))) (fun _ s7 _ => (intOf s7).toNat)
  case atStart => exact ⟨0, none, 0, [], List.replicate n 0, _, by omega, rfl, by simp, ⟨by rw [hn.out]; rfl, same2_nil, by simp⟩, hx, h2, hacc, Bd, kz, nz, kt, nt, ⟨by simpa using hob.out⟩, ⟨Own.nil _ _ _ _ _⟩⟩
  case round =>
    clear hx h2 hacc Bd kz nz kt nt hob
    obtain ⟨j, As, cs, L, lb, Hk, hj, rfl, rfl, hrel, hx, h2, hacc, Bd, kz, nz, kt, nt, hob, hsl⟩ := hrel
    by_cases hlt : j < C
    case pos =>
      have hli : (1 : Int) ≤ (C : Int) - j := by omega
      have lqz : w.heap.size + 1 < wr.heap.size := boxL kz.out
      have cz0 : wr.cell? ⟨w.heap.size + 1, 0, none⟩ = some (.int .i64 0) := (boxC kz.out 0).1
      have fz0 : wr.frozen? ⟨w.heap.size + 1, 0, none⟩ = false := (boxC kz.out 0).2
      have cz1 : wr.cell? ⟨w.heap.size + 1, 1, none⟩ = some (.int .i64 0) := (boxC kz.out 1).1
      have fz1 : wr.frozen? ⟨w.heap.size + 1, 1, none⟩ = false := (boxC kz.out 1).2
      have cz2 : wr.cell? ⟨w.heap.size + 1, 2, none⟩ = some (.slice none 0 0) := (boxC kz.out 2).1
      have fz2 : wr.frozen? ⟨w.heap.size + 1, 2, none⟩ = false := (boxC kz.out 2).2
      have cz3 : wr.cell? ⟨w.heap.size + 1, 3, none⟩ = some (.slice none 0 0) := (boxC kz.out 3).1
      have fz3 : wr.frozen? ⟨w.heap.size + 1, 3, none⟩ = false := (boxC kz.out 3).2
      have cz4 : wr.cell? ⟨w.heap.size + 1, 4, none⟩ = some (.slice none 0 0) := (boxC kz.out 4).1
      have fz4 : wr.frozen? ⟨w.heap.size + 1, 4, none⟩ = false := (boxC kz.out 4).2
      have cz5 : wr.cell? ⟨w.heap.size + 1, 5, none⟩ = some (.slice none 0 0) := (boxC kz.out 5).1
      have fz5 : wr.frozen? ⟨w.heap.size + 1, 5, none⟩ = false := (boxC kz.out 5).2
      have lqt : tb < wr.heap.size := boxL kt.out
      have ct0 : wr.cell? ⟨tb, 0, none⟩ = some (.int .i64 st) := (boxC kt.out 0).1
      have ft0 : wr.frozen? ⟨tb, 0, none⟩ = false := (boxC kt.out 0).2
      have ct1 : wr.cell? ⟨tb, 1, none⟩ = some (.int .i64 C) := (boxC kt.out 1).1
      have ft1 : wr.frozen? ⟨tb, 1, none⟩ = false := (boxC kt.out 1).2
      have ct2 : wr.cell? ⟨tb, 2, none⟩ = some (.slice Aa acc.length ca) := (boxC kt.out 2).1
      have ft2 : wr.frozen? ⟨tb, 2, none⟩ = false := (boxC kt.out 2).2
      have ct3 : wr.cell? ⟨tb, 3, none⟩ = some (.slice (some ⟨gb, 0, none⟩) n n) := (boxC kt.out 3).1
      have ft3 : wr.frozen? ⟨tb, 3, none⟩ = false := (boxC kt.out 3).2
      have ct4 : wr.cell? ⟨tb, 4, none⟩ = some (.slice none 0 0) := (boxC kt.out 4).1
      have ft4 : wr.frozen? ⟨tb, 4, none⟩ = false := (boxC kt.out 4).2
      have ct5 : wr.cell? ⟨tb, 5, none⟩ = some (.slice none 0 0) := (boxC kt.out 5).1
      have ft5 : wr.frozen? ⟨tb, 5, none⟩ = false := (boxC kt.out 5).2
      have lqd : w.heap.size < wr.heap.size := hx.out.sat.lt (Bd.out 0 _ rfl)
      have cd0 : wr.cell? ⟨w.heap.size, 0, none⟩ = some (.int .i64 st) := hx.out.sat _ _ _ (Bd.out 0 _ rfl)
      have cd1 : wr.cell? ⟨w.heap.size, 1, none⟩ = some (.slice A1 acc.length c1) := hx.out.sat _ _ _ (Bd.out 1 _ rfl)
      have cd2 : wr.cell? ⟨w.heap.size, 2, none⟩ = some (.slice (some ⟨b2, off2, none⟩) n c2) := hx.out.sat _ _ _ (Bd.out 2 _ rfl)
      go_wp2_with fail
      clear lqz cz0 fz0 cz1 fz1 cz2 fz2 cz3 fz3 cz4 fz4 cz5 fz5 lqt ct0 ft0 ct1 ft1 ct2 ft2 ct3 ft3 ct4 ft4 ct5 ft5 lqd cd0 cd1 cd2
      go_loopw [6, 44] (fun s6 s44 wr => ∃ (i : Nat) (As : Option Addr) (cs : Nat) (L : List (Int × Int)) (lb : List Int) (Hq : PH), i ≤ n ∧ s6 = .slice As L.length cs ∧ s44 = .int .i64 i ∧ Aside (lb = (packGo next (doneL next C j i)).1 ∧ Same2 L (packGo next (doneL next C j i)).2 ∧ L.length ≤ (doneL next C j i).length * C) ∧ Aside (Ext H Hq w wr) ∧ Aside (SlR (kS (kI .i64)) Hq (some ⟨b2, off2, none⟩) n c2 next) ∧ Aside (SlR (kI .i64) Hq Aa acc.length ca acc) ∧ Aside (BoxH Hq (w.heap.size) [.int .i64 st, .slice A1 acc.length c1, .slice (some ⟨b2, off2, none⟩) n c2]) ∧ Aside (wr.heap[w.heap.size + 1]? = some (.cells #[.int .i64 0, .int .i64 0, .slice none 0 0, .slice none 0 0, .slice none 0 0, .slice none 0 0] 85)) ∧ Aside (∀ o, Hq (w.heap.size + 1) o = none) ∧ Aside (wr.heap[tb]? = some (.cells #[.int .i64 st, .int .i64 C, .slice Aa acc.length ca, .slice (some ⟨gb, 0, none⟩) n n, .slice none 0 0, .slice none 0 0] 85)) ∧ Aside (∀ o, Hq (tb) o = none) ∧ Aside (Own (kI .i64) 3 wr ((w.heap.size + 2)) Hq (.slice (some ⟨gb, 0, none⟩) n n) (lb)) ∧ Aside (Own kP 33 wr (M) Hq (.slice As L.length cs) (L))) (fun _ s44 _ => n - (intOf s44).toNat)
      case atStart => exact ⟨0, _, _, _, _, _, by omega, rfl, rfl, ⟨by rw [doneL_zero]; exact hrel.out⟩, hx, h2, hacc, Bd, kz, nz, kt, nt, ⟨by simpa using hob.out⟩, ⟨by simpa using hsl.out⟩⟩
      case round =>
        clear hx h2 hacc Bd kz nz kt nt hob hsl
        obtain ⟨i, As, cs, L, lb, Hq, hi, rfl, rfl, hrel, hx, h2, hacc, Bd, kz, nz, kt, nt, hob, hsl⟩ := hrel
        by_cases hli2 : i < n
        case pos =>
          have hlii : (i : Int) < (n : Int) := by omega
          obtain ⟨b9, o9, Ar, cr, eA, hcr, hrw⟩ := h2.out.rowD hx.out.sat i (by rw [← hn.out]; exact hli2)
          cases eA
          have hrC : (next.getD i []).length = C := hrl.out i hli2
          have hky : keyN next i = cntF (next.getD i []) := by unfold keyN; rw [Int.toNat_natCast]
          obtain ⟨row, hrow⟩ : ∃ row, row = next.getD i [] := ⟨_, rfl⟩
          rw [← hrow] at hcr hrw hrC hky
          replace hrow := Aside.mk hrow
          replace hky := Aside.mk hky
          rw [hrC] at hcr hrw
          replace hrw := Aside.mk hrw
          replace hrC := Aside.mk hrC
          have lqz : w.heap.size + 1 < wr.heap.size := boxL kz.out
          have cz0 : wr.cell? ⟨w.heap.size + 1, 0, none⟩ = some (.int .i64 0) := (boxC kz.out 0).1
          have fz0 : wr.frozen? ⟨w.heap.size + 1, 0, none⟩ = false := (boxC kz.out 0).2
          have cz1 : wr.cell? ⟨w.heap.size + 1, 1, none⟩ = some (.int .i64 0) := (boxC kz.out 1).1
          have fz1 : wr.frozen? ⟨w.heap.size + 1, 1, none⟩ = false := (boxC kz.out 1).2
          have cz2 : wr.cell? ⟨w.heap.size + 1, 2, none⟩ = some (.slice none 0 0) := (boxC kz.out 2).1
          have fz2 : wr.frozen? ⟨w.heap.size + 1, 2, none⟩ = false := (boxC kz.out 2).2
          have cz3 : wr.cell? ⟨w.heap.size + 1, 3, none⟩ = some (.slice none 0 0) := (boxC kz.out 3).1
          have fz3 : wr.frozen? ⟨w.heap.size + 1, 3, none⟩ = false := (boxC kz.out 3).2
          have cz4 : wr.cell? ⟨w.heap.size + 1, 4, none⟩ = some (.slice none 0 0) := (boxC kz.out 4).1
          have fz4 : wr.frozen? ⟨w.heap.size + 1, 4, none⟩ = false := (boxC kz.out 4).2
          have cz5 : wr.cell? ⟨w.heap.size + 1, 5, none⟩ = some (.slice none 0 0) := (boxC kz.out 5).1
          have fz5 : wr.frozen? ⟨w.heap.size + 1, 5, none⟩ = false := (boxC kz.out 5).2
          have lqt : tb < wr.heap.size := boxL kt.out
          have ct0 : wr.cell? ⟨tb, 0, none⟩ = some (.int .i64 st) := (boxC kt.out 0).1
          have ft0 : wr.frozen? ⟨tb, 0, none⟩ = false := (boxC kt.out 0).2
          have ct1 : wr.cell? ⟨tb, 1, none⟩ = some (.int .i64 C) := (boxC kt.out 1).1
          have ft1 : wr.frozen? ⟨tb, 1, none⟩ = false := (boxC kt.out 1).2
          have ct2 : wr.cell? ⟨tb, 2, none⟩ = some (.slice Aa acc.length ca) := (boxC kt.out 2).1
          have ft2 : wr.frozen? ⟨tb, 2, none⟩ = false := (boxC kt.out 2).2
          have ct3 : wr.cell? ⟨tb, 3, none⟩ = some (.slice (some ⟨gb, 0, none⟩) n n) := (boxC kt.out 3).1
          have ft3 : wr.frozen? ⟨tb, 3, none⟩ = false := (boxC kt.out 3).2
          have ct4 : wr.cell? ⟨tb, 4, none⟩ = some (.slice none 0 0) := (boxC kt.out 4).1
          have ft4 : wr.frozen? ⟨tb, 4, none⟩ = false := (boxC kt.out 4).2
          have ct5 : wr.cell? ⟨tb, 5, none⟩ = some (.slice none 0 0) := (boxC kt.out 5).1
          have ft5 : wr.frozen? ⟨tb, 5, none⟩ = false := (boxC kt.out 5).2
          have lqd : w.heap.size < wr.heap.size := hx.out.sat.lt (Bd.out 0 _ rfl)
          have cd0 : wr.cell? ⟨w.heap.size, 0, none⟩ = some (.int .i64 st) := hx.out.sat _ _ _ (Bd.out 0 _ rfl)
          have cd1 : wr.cell? ⟨w.heap.size, 1, none⟩ = some (.slice A1 acc.length c1) := hx.out.sat _ _ _ (Bd.out 1 _ rfl)
          have cd2 : wr.cell? ⟨w.heap.size, 2, none⟩ = some (.slice (some ⟨b2, off2, none⟩) n c2) := hx.out.sat _ _ _ (Bd.out 2 _ rfl)
          go_wp2_with fail
          clear lqz cz0 fz0 cz1 fz1 cz2 fz2 cz3 fz3 cz4 fz4 cz5 fz5 lqt ct0 ft0 ct1 ft1 ct2 ft2 ct3 ft3 ct4 ft4 ct5 ft5 lqd cd0 cd1 cd2
          clear hcr
          go_loopw [10, 51] (fun s10 s51 wr => ∃ (q : Nat) (ct : Int) (Hr : PH), q ≤ C ∧ s10 = .int .i64 ct ∧ s51 = .int .i64 q ∧ (0 ≤ ct ∧ ct ≤ q) ∧ Aside (ct = cntF (row.take q)) ∧ Aside (Ext H Hr w wr) ∧ Aside (SlR (kS (kI .i64)) Hr (some ⟨b2, off2, none⟩) n c2 next) ∧ Aside (SlR (kI .i64) Hr Aa acc.length ca acc) ∧ Aside (SlR (kI .i64) Hr Ar C cr row) ∧ Aside (BoxH Hr (w.heap.size) [.int .i64 st, .slice A1 acc.length c1, .slice (some ⟨b2, off2, none⟩) n c2]) ∧ Aside (wr.heap[w.heap.size + 1]? = some (.cells #[.int .i64 0, .int .i64 0, .slice none 0 0, .slice none 0 0, .slice none 0 0, .slice none 0 0] 85)) ∧ Aside (∀ o, Hr (w.heap.size + 1) o = none) ∧ Aside (wr.heap[tb]? = some (.cells #[.int .i64 st, .int .i64 C, .slice Aa acc.length ca, .slice (some ⟨gb, 0, none⟩) n n, .slice none 0 0, .slice none 0 0] 85)) ∧ Aside (∀ o, Hr (tb) o = none) ∧ Aside (Own (kI .i64) 3 wr ((w.heap.size + 2)) Hr (.slice (some ⟨gb, 0, none⟩) n n) (lb)) ∧ Aside (Own kP 33 wr (M) Hr (.slice As L.length cs) (L))) (fun _ s51 _ => C - (intOf s51).toNat)
          case atStart => exact ⟨0, 0, _, by omega, rfl, rfl, by omega, ⟨by simp [cntF]⟩, hx, h2, hacc, hrw, Bd, kz, nz, kt, nt, ⟨by simpa using hob.out⟩, ⟨by simpa using hsl.out⟩⟩
          case round =>
            clear hx h2 hacc hrw Bd kz nz kt nt hob hsl
            obtain ⟨q, ct, Hr, hq, rfl, rfl, hct, hcs, hx, h2, hacc, hrw, Bd, kz, nz, kt, nt, hob, hsl⟩ := hrel
            by_cases hlq : q < C
            case pos =>
              have hlqi : (q : Int) < (C : Int) := by omega
              obtain ⟨b6, o6, eA, hcj⟩ := (hrw.out.wr hx.out.sat).atD q (by rw [hrC.out]; exact hlq)
              subst eA
              have hct2 := cntF_take (row := row) (k := q) (by rw [hrC.out]; exact hlq)
              generalize row.getD q 0 = y at *
              replace hct2 := Aside.mk hct2
              by_cases y0 : 0 ≤ y
              case pos =>
                have hq2 : Aside (ct + 1 = cntF (row.take (q + 1))) := ⟨by rw [hct2.out, if_pos y0, hcs.out]⟩
                have lqz : w.heap.size + 1 < wr.heap.size := boxL kz.out
                have cz0 : wr.cell? ⟨w.heap.size + 1, 0, none⟩ = some (.int .i64 0) := (boxC kz.out 0).1
                have fz0 : wr.frozen? ⟨w.heap.size + 1, 0, none⟩ = false := (boxC kz.out 0).2
                have cz1 : wr.cell? ⟨w.heap.size + 1, 1, none⟩ = some (.int .i64 0) := (boxC kz.out 1).1
                have fz1 : wr.frozen? ⟨w.heap.size + 1, 1, none⟩ = false := (boxC kz.out 1).2
                have cz2 : wr.cell? ⟨w.heap.size + 1, 2, none⟩ = some (.slice none 0 0) := (boxC kz.out 2).1
                have fz2 : wr.frozen? ⟨w.heap.size + 1, 2, none⟩ = false := (boxC kz.out 2).2
                have cz3 : wr.cell? ⟨w.heap.size + 1, 3, none⟩ = some (.slice none 0 0) := (boxC kz.out 3).1
                have fz3 : wr.frozen? ⟨w.heap.size + 1, 3, none⟩ = false := (boxC kz.out 3).2
                have cz4 : wr.cell? ⟨w.heap.size + 1, 4, none⟩ = some (.slice none 0 0) := (boxC kz.out 4).1
                have fz4 : wr.frozen? ⟨w.heap.size + 1, 4, none⟩ = false := (boxC kz.out 4).2
                have cz5 : wr.cell? ⟨w.heap.size + 1, 5, none⟩ = some (.slice none 0 0) := (boxC kz.out 5).1
                have fz5 : wr.frozen? ⟨w.heap.size + 1, 5, none⟩ = false := (boxC kz.out 5).2
                have lqt : tb < wr.heap.size := boxL kt.out
                have ct0 : wr.cell? ⟨tb, 0, none⟩ = some (.int .i64 st) := (boxC kt.out 0).1
                have ft0 : wr.frozen? ⟨tb, 0, none⟩ = false := (boxC kt.out 0).2
                have ct1 : wr.cell? ⟨tb, 1, none⟩ = some (.int .i64 C) := (boxC kt.out 1).1
                have ft1 : wr.frozen? ⟨tb, 1, none⟩ = false := (boxC kt.out 1).2
                have ct2 : wr.cell? ⟨tb, 2, none⟩ = some (.slice Aa acc.length ca) := (boxC kt.out 2).1
                have ft2 : wr.frozen? ⟨tb, 2, none⟩ = false := (boxC kt.out 2).2
                have ct3 : wr.cell? ⟨tb, 3, none⟩ = some (.slice (some ⟨gb, 0, none⟩) n n) := (boxC kt.out 3).1
                have ft3 : wr.frozen? ⟨tb, 3, none⟩ = false := (boxC kt.out 3).2
                have ct4 : wr.cell? ⟨tb, 4, none⟩ = some (.slice none 0 0) := (boxC kt.out 4).1
                have ft4 : wr.frozen? ⟨tb, 4, none⟩ = false := (boxC kt.out 4).2
                have ct5 : wr.cell? ⟨tb, 5, none⟩ = some (.slice none 0 0) := (boxC kt.out 5).1
                have ft5 : wr.frozen? ⟨tb, 5, none⟩ = false := (boxC kt.out 5).2
                have lqd : w.heap.size < wr.heap.size := hx.out.sat.lt (Bd.out 0 _ rfl)
                have cd0 : wr.cell? ⟨w.heap.size, 0, none⟩ = some (.int .i64 st) := hx.out.sat _ _ _ (Bd.out 0 _ rfl)
                have cd1 : wr.cell? ⟨w.heap.size, 1, none⟩ = some (.slice A1 acc.length c1) := hx.out.sat _ _ _ (Bd.out 1 _ rfl)
                have cd2 : wr.cell? ⟨w.heap.size, 2, none⟩ = some (.slice (some ⟨b2, off2, none⟩) n c2) := hx.out.sat _ _ _ (Bd.out 2 _ rfl)
                go_wp2_with fail
                clear lqz cz0 fz0 cz1 fz1 cz2 fz2 cz3 fz3 cz4 fz4 cz5 fz5 lqt ct0 ft0 ct1 ft1 ct2 ft2 ct3 ft3 ct4 ft4 ct5 ft5 lqd cd0 cd1 cd2
                go_roundw
                case rel => exact ⟨q + 1, ct + 1, _, by omega, by go_num, by go_num, by omega, hq2, hx, h2, hacc, hrw, Bd, kz, nz, kt, nt, hob, hsl⟩
                case measure => (first | (simp [intOf]; done) | (simp [intOf]; omega))
              case neg =>
                have hq2 : Aside (ct = cntF (row.take (q + 1))) := ⟨by rw [hct2.out, if_neg y0, hcs.out]; omega⟩
                have lqz : w.heap.size + 1 < wr.heap.size := boxL kz.out
                have cz0 : wr.cell? ⟨w.heap.size + 1, 0, none⟩ = some (.int .i64 0) := (boxC kz.out 0).1
                have fz0 : wr.frozen? ⟨w.heap.size + 1, 0, none⟩ = false := (boxC kz.out 0).2
                have cz1 : wr.cell? ⟨w.heap.size + 1, 1, none⟩ = some (.int .i64 0) := (boxC kz.out 1).1
                have fz1 : wr.frozen? ⟨w.heap.size + 1, 1, none⟩ = false := (boxC kz.out 1).2
                have cz2 : wr.cell? ⟨w.heap.size + 1, 2, none⟩ = some (.slice none 0 0) := (boxC kz.out 2).1
                have fz2 : wr.frozen? ⟨w.heap.size + 1, 2, none⟩ = false := (boxC kz.out 2).2
                have cz3 : wr.cell? ⟨w.heap.size + 1, 3, none⟩ = some (.slice none 0 0) := (boxC kz.out 3).1
                have fz3 : wr.frozen? ⟨w.heap.size + 1, 3, none⟩ = false := (boxC kz.out 3).2
                have cz4 : wr.cell? ⟨w.heap.size + 1, 4, none⟩ = some (.slice none 0 0) := (boxC kz.out 4).1
                have fz4 : wr.frozen? ⟨w.heap.size + 1, 4, none⟩ = false := (boxC kz.out 4).2
                have cz5 : wr.cell? ⟨w.heap.size + 1, 5, none⟩ = some (.slice none 0 0) := (boxC kz.out 5).1
                have fz5 : wr.frozen? ⟨w.heap.size + 1, 5, none⟩ = false := (boxC kz.out 5).2
                have lqt : tb < wr.heap.size := boxL kt.out
                have ct0 : wr.cell? ⟨tb, 0, none⟩ = some (.int .i64 st) := (boxC kt.out 0).1
                have ft0 : wr.frozen? ⟨tb, 0, none⟩ = false := (boxC kt.out 0).2
                have ct1 : wr.cell? ⟨tb, 1, none⟩ = some (.int .i64 C) := (boxC kt.out 1).1
                have ft1 : wr.frozen? ⟨tb, 1, none⟩ = false := (boxC kt.out 1).2
                have ct2 : wr.cell? ⟨tb, 2, none⟩ = some (.slice Aa acc.length ca) := (boxC kt.out 2).1
                have ft2 : wr.frozen? ⟨tb, 2, none⟩ = false := (boxC kt.out 2).2
                have ct3 : wr.cell? ⟨tb, 3, none⟩ = some (.slice (some ⟨gb, 0, none⟩) n n) := (boxC kt.out 3).1
                have ft3 : wr.frozen? ⟨tb, 3, none⟩ = false := (boxC kt.out 3).2
                have ct4 : wr.cell? ⟨tb, 4, none⟩ = some (.slice none 0 0) := (boxC kt.out 4).1
                have ft4 : wr.frozen? ⟨tb, 4, none⟩ = false := (boxC kt.out 4).2
                have ct5 : wr.cell? ⟨tb, 5, none⟩ = some (.slice none 0 0) := (boxC kt.out 5).1
                have ft5 : wr.frozen? ⟨tb, 5, none⟩ = false := (boxC kt.out 5).2
                have lqd : w.heap.size < wr.heap.size := hx.out.sat.lt (Bd.out 0 _ rfl)
                have cd0 : wr.cell? ⟨w.heap.size, 0, none⟩ = some (.int .i64 st) := hx.out.sat _ _ _ (Bd.out 0 _ rfl)
                have cd1 : wr.cell? ⟨w.heap.size, 1, none⟩ = some (.slice A1 acc.length c1) := hx.out.sat _ _ _ (Bd.out 1 _ rfl)
                have cd2 : wr.cell? ⟨w.heap.size, 2, none⟩ = some (.slice (some ⟨b2, off2, none⟩) n c2) := hx.out.sat _ _ _ (Bd.out 2 _ rfl)
                go_wp2_with fail
                clear lqz cz0 fz0 cz1 fz1 cz2 fz2 cz3 fz3 cz4 fz4 cz5 fz5 lqt ct0 ft0 ct1 ft1 ct2 ft2 ct3 ft3 ct4 ft4 ct5 ft5 lqd cd0 cd1 cd2
                go_roundw
                case rel => exact ⟨q + 1, ct, _, by omega, rfl, by go_num, by omega, hq2, hx, h2, hacc, hrw, Bd, kz, nz, kt, nt, hob, hsl⟩
                case measure => (first | (simp [intOf]; done) | (simp [intOf]; omega))
            case neg =>
              have hlqi : ¬ (q : Int) < (C : Int) := by omega
              have hcf : Aside (ct = keyN next i) := ⟨by rw [hcs.out, hky.out, List.take_of_length_le (by rw [hrC.out]; omega)]⟩
              have hct9 : 0 ≤ ct ∧ ct ≤ C := by omega
              clear hcs hct hq
              by_cases he : ct = (C : Int) - j
              case neg =>
                have qe : (ct == (C : Int) - j) = false := beq_eq_false_iff_ne.2 he
                have qen : (ct != (C : Int) - j) = true := bne_iff_ne.2 he
                have hrel2 : Aside (lb = (packGo next (doneL next C j (i + 1))).1 ∧ Same2 L (packGo next (doneL next C j (i + 1))).2 ∧ L.length ≤ (doneL next C j (i + 1)).length * C) := ⟨by rw [doneL_out (by rw [← hcf.out]; exact he)]; exact hrel.out⟩
                clear he
                clear hrw
                have lqz : w.heap.size + 1 < wr.heap.size := boxL kz.out
                have cz0 : wr.cell? ⟨w.heap.size + 1, 0, none⟩ = some (.int .i64 0) := (boxC kz.out 0).1
                have fz0 : wr.frozen? ⟨w.heap.size + 1, 0, none⟩ = false := (boxC kz.out 0).2
                have cz1 : wr.cell? ⟨w.heap.size + 1, 1, none⟩ = some (.int .i64 0) := (boxC kz.out 1).1
                have fz1 : wr.frozen? ⟨w.heap.size + 1, 1, none⟩ = false := (boxC kz.out 1).2
                have cz2 : wr.cell? ⟨w.heap.size + 1, 2, none⟩ = some (.slice none 0 0) := (boxC kz.out 2).1
                have fz2 : wr.frozen? ⟨w.heap.size + 1, 2, none⟩ = false := (boxC kz.out 2).2
                have cz3 : wr.cell? ⟨w.heap.size + 1, 3, none⟩ = some (.slice none 0 0) := (boxC kz.out 3).1
                have fz3 : wr.frozen? ⟨w.heap.size + 1, 3, none⟩ = false := (boxC kz.out 3).2
                have cz4 : wr.cell? ⟨w.heap.size + 1, 4, none⟩ = some (.slice none 0 0) := (boxC kz.out 4).1
                have fz4 : wr.frozen? ⟨w.heap.size + 1, 4, none⟩ = false := (boxC kz.out 4).2
                have cz5 : wr.cell? ⟨w.heap.size + 1, 5, none⟩ = some (.slice none 0 0) := (boxC kz.out 5).1
                have fz5 : wr.frozen? ⟨w.heap.size + 1, 5, none⟩ = false := (boxC kz.out 5).2
                have lqt : tb < wr.heap.size := boxL kt.out
                have ct0 : wr.cell? ⟨tb, 0, none⟩ = some (.int .i64 st) := (boxC kt.out 0).1
                have ft0 : wr.frozen? ⟨tb, 0, none⟩ = false := (boxC kt.out 0).2
                have ct1 : wr.cell? ⟨tb, 1, none⟩ = some (.int .i64 C) := (boxC kt.out 1).1
                have ft1 : wr.frozen? ⟨tb, 1, none⟩ = false := (boxC kt.out 1).2
                have ct2 : wr.cell? ⟨tb, 2, none⟩ = some (.slice Aa acc.length ca) := (boxC kt.out 2).1
                have ft2 : wr.frozen? ⟨tb, 2, none⟩ = false := (boxC kt.out 2).2
                have ct3 : wr.cell? ⟨tb, 3, none⟩ = some (.slice (some ⟨gb, 0, none⟩) n n) := (boxC kt.out 3).1
                have ft3 : wr.frozen? ⟨tb, 3, none⟩ = false := (boxC kt.out 3).2
                have ct4 : wr.cell? ⟨tb, 4, none⟩ = some (.slice none 0 0) := (boxC kt.out 4).1
                have ft4 : wr.frozen? ⟨tb, 4, none⟩ = false := (boxC kt.out 4).2
                have ct5 : wr.cell? ⟨tb, 5, none⟩ = some (.slice none 0 0) := (boxC kt.out 5).1
                have ft5 : wr.frozen? ⟨tb, 5, none⟩ = false := (boxC kt.out 5).2
                have lqd : w.heap.size < wr.heap.size := hx.out.sat.lt (Bd.out 0 _ rfl)
                have cd0 : wr.cell? ⟨w.heap.size, 0, none⟩ = some (.int .i64 st) := hx.out.sat _ _ _ (Bd.out 0 _ rfl)
                have cd1 : wr.cell? ⟨w.heap.size, 1, none⟩ = some (.slice A1 acc.length c1) := hx.out.sat _ _ _ (Bd.out 1 _ rfl)
                have cd2 : wr.cell? ⟨w.heap.size, 2, none⟩ = some (.slice (some ⟨b2, off2, none⟩) n c2) := hx.out.sat _ _ _ (Bd.out 2 _ rfl)
                go_wp2_with fail
                clear lqz cz0 fz0 cz1 fz1 cz2 fz2 cz3 fz3 cz4 fz4 cz5 fz5 lqt ct0 ft0 ct1 ft1 ct2 ft2 ct3 ft3 ct4 ft4 ct5 ft5 lqd cd0 cd1 cd2
                go_roundw
                case rel => exact ⟨i + 1, _, _, _, _, _, by omega, rfl, by go_num, hrel2, hx, h2, hacc, Bd, kz, nz, kt, nt, hob, hsl⟩
                case measure => (first | (simp [intOf]; done) | (simp [intOf]; omega))
              case pos =>
                have qe : (ct == (C : Int) - j) = true := beq_iff_eq.2 he
                have qen : (ct != (C : Int) - j) = false := by rw [he]; exact bne_self_eq_false _
                have hkey : Aside (keyN next i = (C : Int) - j ∧ cntF row ≠ 0) := ⟨by rw [← hcf.out]; exact he, by rw [← hky.out, ← hcf.out]; omega⟩
                clear he hct9
                have lqz : w.heap.size + 1 < wr.heap.size := boxL kz.out
                have cz0 : wr.cell? ⟨w.heap.size + 1, 0, none⟩ = some (.int .i64 0) := (boxC kz.out 0).1
                have fz0 : wr.frozen? ⟨w.heap.size + 1, 0, none⟩ = false := (boxC kz.out 0).2
                have cz1 : wr.cell? ⟨w.heap.size + 1, 1, none⟩ = some (.int .i64 0) := (boxC kz.out 1).1
                have fz1 : wr.frozen? ⟨w.heap.size + 1, 1, none⟩ = false := (boxC kz.out 1).2
                have cz2 : wr.cell? ⟨w.heap.size + 1, 2, none⟩ = some (.slice none 0 0) := (boxC kz.out 2).1
                have fz2 : wr.frozen? ⟨w.heap.size + 1, 2, none⟩ = false := (boxC kz.out 2).2
                have cz3 : wr.cell? ⟨w.heap.size + 1, 3, none⟩ = some (.slice none 0 0) := (boxC kz.out 3).1
                have fz3 : wr.frozen? ⟨w.heap.size + 1, 3, none⟩ = false := (boxC kz.out 3).2
                have cz4 : wr.cell? ⟨w.heap.size + 1, 4, none⟩ = some (.slice none 0 0) := (boxC kz.out 4).1
                have fz4 : wr.frozen? ⟨w.heap.size + 1, 4, none⟩ = false := (boxC kz.out 4).2
                have cz5 : wr.cell? ⟨w.heap.size + 1, 5, none⟩ = some (.slice none 0 0) := (boxC kz.out 5).1
                have fz5 : wr.frozen? ⟨w.heap.size + 1, 5, none⟩ = false := (boxC kz.out 5).2
                have lqt : tb < wr.heap.size := boxL kt.out
                have ct0 : wr.cell? ⟨tb, 0, none⟩ = some (.int .i64 st) := (boxC kt.out 0).1
                have ft0 : wr.frozen? ⟨tb, 0, none⟩ = false := (boxC kt.out 0).2
                have ct1 : wr.cell? ⟨tb, 1, none⟩ = some (.int .i64 C) := (boxC kt.out 1).1
                have ft1 : wr.frozen? ⟨tb, 1, none⟩ = false := (boxC kt.out 1).2
                have ct2 : wr.cell? ⟨tb, 2, none⟩ = some (.slice Aa acc.length ca) := (boxC kt.out 2).1
                have ft2 : wr.frozen? ⟨tb, 2, none⟩ = false := (boxC kt.out 2).2
                have ct3 : wr.cell? ⟨tb, 3, none⟩ = some (.slice (some ⟨gb, 0, none⟩) n n) := (boxC kt.out 3).1
                have ft3 : wr.frozen? ⟨tb, 3, none⟩ = false := (boxC kt.out 3).2
                have ct4 : wr.cell? ⟨tb, 4, none⟩ = some (.slice none 0 0) := (boxC kt.out 4).1
                have ft4 : wr.frozen? ⟨tb, 4, none⟩ = false := (boxC kt.out 4).2
                have ct5 : wr.cell? ⟨tb, 5, none⟩ = some (.slice none 0 0) := (boxC kt.out 5).1
                have ft5 : wr.frozen? ⟨tb, 5, none⟩ = false := (boxC kt.out 5).2
                have lqd : w.heap.size < wr.heap.size := hx.out.sat.lt (Bd.out 0 _ rfl)
                have cd0 : wr.cell? ⟨w.heap.size, 0, none⟩ = some (.int .i64 st) := hx.out.sat _ _ _ (Bd.out 0 _ rfl)
                have cd1 : wr.cell? ⟨w.heap.size, 1, none⟩ = some (.slice A1 acc.length c1) := hx.out.sat _ _ _ (Bd.out 1 _ rfl)
                have cd2 : wr.cell? ⟨w.heap.size, 2, none⟩ = some (.slice (some ⟨b2, off2, none⟩) n c2) := hx.out.sat _ _ _ (Bd.out 2 _ rfl)
                go_wp2_with fail
                clear lqz cz0 fz0 cz1 fz1 cz2 fz2 cz3 fz3 cz4 fz4 cz5 fz5 lqt ct0 ft0 ct1 ft1 ct2 ft2 ct3 ft3 ct4 ft4 ct5 ft5 lqd cd0 cd1 cd2
                clear qe qen
                obtain ⟨P, hP⟩ : ∃ P, P = packGo next (doneL next C j i) := ⟨_, rfl⟩
                have hdl : (doneL next C j i).length ≤ n := by rw [hn.out]; exact doneL_len (fun s hs => hrl.out s (by rw [hn.out]; exact hs)) hlt (by rw [← hn.out]; exact hi)
                have hinv := doneL_inv (next := next) (cols := C) (j := j) (s := i) hform.out (by rw [← hn.out]; exact hi)
                obtain ⟨D, hD⟩ : ∃ D, D = (doneL next C j i).length * C := ⟨_, rfl⟩
                have hDb : D ≤ 3200 := by rw [hD]; exact Nat.le_trans (Nat.mul_le_mul hdl hCb.2) (by omega)
                have hPo : P.2.1.length ≤ D := by rw [hP, hD]; exact hinv.max
                have hPs := placeN_spec P.2.1 row
                have hpl : placeN P.2.1 row ≤ D := Nat.le_trans hPs.2.2 hPo
                have hlb : lb = P.1 := by rw [hP]; exact hrel.out.1
                have hlbl : lb.length = n := by rw [hlb, hP, hn.out]; exact hinv.base
                have hSm : Aside (Same2 L P.2) := ⟨by rw [hP]; exact hrel.out.2.1⟩
                have hLD : L.length ≤ D := by rw [hD]; exact hrel.out.2.2
                replace hP := Aside.mk hP
                replace hD := Aside.mk hD
                replace hPs := Aside.mk hPs
                replace hlb := Aside.mk hlb
                clear hinv hrel hPo hdl
                go_loopw [6, 13] (fun s6 s13 wr => ∃ (b : Nat) (As : Option Addr) (cs : Nat) (L : List (Int × Int)) (Hr : PH), b ≤ placeN P.2.1 row ∧ s6 = .slice As L.length cs ∧ s13 = .int .i64 b ∧ L.length ≤ D + C ∧ Aside (Same2 L P.2) ∧ Aside (∀ c, c < b → ¬ freeAt P.2.1 row c) ∧ Aside (Ext H Hr w wr) ∧ Aside (SlR (kS (kI .i64)) Hr (some ⟨b2, off2, none⟩) n c2 next) ∧ Aside (SlR (kI .i64) Hr Aa acc.length ca acc) ∧ Aside (SlR (kI .i64) Hr Ar C cr row) ∧ Aside (BoxH Hr (w.heap.size) [.int .i64 st, .slice A1 acc.length c1, .slice (some ⟨b2, off2, none⟩) n c2]) ∧ Aside (wr.heap[w.heap.size + 1]? = some (.cells #[.int .i64 0, .int .i64 0, .slice none 0 0, .slice none 0 0, .slice none 0 0, .slice none 0 0] 85)) ∧ Aside (∀ o, Hr (w.heap.size + 1) o = none) ∧ Aside (wr.heap[tb]? = some (.cells #[.int .i64 st, .int .i64 C, .slice Aa acc.length ca, .slice (some ⟨gb, 0, none⟩) n n, .slice none 0 0, .slice none 0 0] 85)) ∧ Aside (∀ o, Hr (tb) o = none) ∧ Aside (Own (kI .i64) 3 wr ((w.heap.size + 2)) Hr (.slice (some ⟨gb, 0, none⟩) n n) (lb)) ∧ Aside (Own kP 33 wr (M) Hr (.slice As L.length cs) (L))) (fun _ s13 _ => placeN P.2.1 row + 1 - (intOf s13).toNat)
                case atStart => exact ⟨0, _, _, _, _, by omega, rfl, rfl, by omega, hSm, ⟨fun c h => by omega⟩, hx, h2, hacc, hrw, Bd, kz, nz, kt, nt, ⟨by simpa using hob.out⟩, ⟨by simpa using hsl.out⟩⟩
                case round =>
                  clear hx h2 hacc hrw Bd kz nz kt nt hob hsl
                  obtain ⟨b, As, cs, L, Hr, hb, rfl, rfl, hLD, hSm, hno, hx, h2, hacc, hrw, Bd, kz, nz, kt, nt, hob, hsl⟩ := hrel
                  have lqz : w.heap.size + 1 < wr.heap.size := boxL kz.out
                  have cz0 : wr.cell? ⟨w.heap.size + 1, 0, none⟩ = some (.int .i64 0) := (boxC kz.out 0).1
                  have fz0 : wr.frozen? ⟨w.heap.size + 1, 0, none⟩ = false := (boxC kz.out 0).2
                  have cz1 : wr.cell? ⟨w.heap.size + 1, 1, none⟩ = some (.int .i64 0) := (boxC kz.out 1).1
                  have fz1 : wr.frozen? ⟨w.heap.size + 1, 1, none⟩ = false := (boxC kz.out 1).2
                  have cz2 : wr.cell? ⟨w.heap.size + 1, 2, none⟩ = some (.slice none 0 0) := (boxC kz.out 2).1
                  have fz2 : wr.frozen? ⟨w.heap.size + 1, 2, none⟩ = false := (boxC kz.out 2).2
                  have cz3 : wr.cell? ⟨w.heap.size + 1, 3, none⟩ = some (.slice none 0 0) := (boxC kz.out 3).1
                  have fz3 : wr.frozen? ⟨w.heap.size + 1, 3, none⟩ = false := (boxC kz.out 3).2
                  have cz4 : wr.cell? ⟨w.heap.size + 1, 4, none⟩ = some (.slice none 0 0) := (boxC kz.out 4).1
                  have fz4 : wr.frozen? ⟨w.heap.size + 1, 4, none⟩ = false := (boxC kz.out 4).2
                  have cz5 : wr.cell? ⟨w.heap.size + 1, 5, none⟩ = some (.slice none 0 0) := (boxC kz.out 5).1
                  have fz5 : wr.frozen? ⟨w.heap.size + 1, 5, none⟩ = false := (boxC kz.out 5).2
                  have lqt : tb < wr.heap.size := boxL kt.out
                  have ct0 : wr.cell? ⟨tb, 0, none⟩ = some (.int .i64 st) := (boxC kt.out 0).1
                  have ft0 : wr.frozen? ⟨tb, 0, none⟩ = false := (boxC kt.out 0).2
                  have ct1 : wr.cell? ⟨tb, 1, none⟩ = some (.int .i64 C) := (boxC kt.out 1).1
                  have ft1 : wr.frozen? ⟨tb, 1, none⟩ = false := (boxC kt.out 1).2
                  have ct2 : wr.cell? ⟨tb, 2, none⟩ = some (.slice Aa acc.length ca) := (boxC kt.out 2).1
                  have ft2 : wr.frozen? ⟨tb, 2, none⟩ = false := (boxC kt.out 2).2
                  have ct3 : wr.cell? ⟨tb, 3, none⟩ = some (.slice (some ⟨gb, 0, none⟩) n n) := (boxC kt.out 3).1
                  have ft3 : wr.frozen? ⟨tb, 3, none⟩ = false := (boxC kt.out 3).2
                  have ct4 : wr.cell? ⟨tb, 4, none⟩ = some (.slice none 0 0) := (boxC kt.out 4).1
                  have ft4 : wr.frozen? ⟨tb, 4, none⟩ = false := (boxC kt.out 4).2
                  have ct5 : wr.cell? ⟨tb, 5, none⟩ = some (.slice none 0 0) := (boxC kt.out 5).1
                  have ft5 : wr.frozen? ⟨tb, 5, none⟩ = false := (boxC kt.out 5).2
                  have lqd : w.heap.size < wr.heap.size := hx.out.sat.lt (Bd.out 0 _ rfl)
                  have cd0 : wr.cell? ⟨w.heap.size, 0, none⟩ = some (.int .i64 st) := hx.out.sat _ _ _ (Bd.out 0 _ rfl)
                  have cd1 : wr.cell? ⟨w.heap.size, 1, none⟩ = some (.slice A1 acc.length c1) := hx.out.sat _ _ _ (Bd.out 1 _ rfl)
                  have cd2 : wr.cell? ⟨w.heap.size, 2, none⟩ = some (.slice (some ⟨b2, off2, none⟩) n c2) := hx.out.sat _ _ _ (Bd.out 2 _ rfl)
                  go_wp2_with fail
                  clear lqz cz0 fz0 cz1 fz1 cz2 fz2 cz3 fz3 cz4 fz4 cz5 fz5 lqt ct0 ft0 ct1 ft1 ct2 ft2 ct3 ft3 ct4 ft4 ct5 ft5 lqd cd0 cd1 cd2
                  go_loopw [6] (fun s6 wr => ∃ (As : Option Addr) (cs : Nat) (L : List (Int × Int)) (Hs : PH), s6 = .slice As L.length cs ∧ L.length ≤ D + C ∧ Aside (Same2 L P.2) ∧ Aside (Ext H Hs w wr) ∧ Aside (SlR (kS (kI .i64)) Hs (some ⟨b2, off2, none⟩) n c2 next) ∧ Aside (SlR (kI .i64) Hs Aa acc.length ca acc) ∧ Aside (SlR (kI .i64) Hs Ar C cr row) ∧ Aside (BoxH Hs (w.heap.size) [.int .i64 st, .slice A1 acc.length c1, .slice (some ⟨b2, off2, none⟩) n c2]) ∧ Aside (wr.heap[w.heap.size + 1]? = some (.cells #[.int .i64 0, .int .i64 0, .slice none 0 0, .slice none 0 0, .slice none 0 0, .slice none 0 0] 85)) ∧ Aside (∀ o, Hs (w.heap.size + 1) o = none) ∧ Aside (wr.heap[tb]? = some (.cells #[.int .i64 st, .int .i64 C, .slice Aa acc.length ca, .slice (some ⟨gb, 0, none⟩) n n, .slice none 0 0, .slice none 0 0] 85)) ∧ Aside (∀ o, Hs (tb) o = none) ∧ Aside (Own (kI .i64) 3 wr ((w.heap.size + 2)) Hs (.slice (some ⟨gb, 0, none⟩) n n) (lb)) ∧ Aside (Own kP 33 wr (M) Hs (.slice As L.length cs) (L))) (fun s6 _ => D + C + 1 - lenS s6)
                  case atStart => exact ⟨_, _, _, _, rfl, hLD, hSm, hx, h2, hacc, hrw, Bd, kz, nz, kt, nt, ⟨by simpa using hob.out⟩, ⟨by simpa using hsl.out⟩⟩
                  case round =>
                    clear hx h2 hacc hrw Bd kz nz kt nt hob hsl
                    obtain ⟨As, cs, L, Hs, rfl, hLD, hSm, hx, h2, hacc, hrw, Bd, kz, nz, kt, nt, hob, hsl⟩ := hrel
                    have hwb : IntKind.i64.wrap ((b : Int) + C) = (b : Int) + C := IntWalk.i64_in _ (by omega)
                    by_cases hlr : (L.length : Int) < (b : Int) + C
                    case pos =>
                      have hgbw := (hob.out.blk (b := gb) rfl).2.1
                      have htbw := boxL kt.out
                      have lqz : w.heap.size + 1 < wr.heap.size := boxL kz.out
                      have cz0 : wr.cell? ⟨w.heap.size + 1, 0, none⟩ = some (.int .i64 0) := (boxC kz.out 0).1
                      have fz0 : wr.frozen? ⟨w.heap.size + 1, 0, none⟩ = false := (boxC kz.out 0).2
                      have cz1 : wr.cell? ⟨w.heap.size + 1, 1, none⟩ = some (.int .i64 0) := (boxC kz.out 1).1
                      have fz1 : wr.frozen? ⟨w.heap.size + 1, 1, none⟩ = false := (boxC kz.out 1).2
                      have cz2 : wr.cell? ⟨w.heap.size + 1, 2, none⟩ = some (.slice none 0 0) := (boxC kz.out 2).1
                      have fz2 : wr.frozen? ⟨w.heap.size + 1, 2, none⟩ = false := (boxC kz.out 2).2
                      have cz3 : wr.cell? ⟨w.heap.size + 1, 3, none⟩ = some (.slice none 0 0) := (boxC kz.out 3).1
                      have fz3 : wr.frozen? ⟨w.heap.size + 1, 3, none⟩ = false := (boxC kz.out 3).2
                      have cz4 : wr.cell? ⟨w.heap.size + 1, 4, none⟩ = some (.slice none 0 0) := (boxC kz.out 4).1
                      have fz4 : wr.frozen? ⟨w.heap.size + 1, 4, none⟩ = false := (boxC kz.out 4).2
                      have cz5 : wr.cell? ⟨w.heap.size + 1, 5, none⟩ = some (.slice none 0 0) := (boxC kz.out 5).1
                      have fz5 : wr.frozen? ⟨w.heap.size + 1, 5, none⟩ = false := (boxC kz.out 5).2
                      have lqt : tb < wr.heap.size := boxL kt.out
                      have ct0 : wr.cell? ⟨tb, 0, none⟩ = some (.int .i64 st) := (boxC kt.out 0).1
                      have ft0 : wr.frozen? ⟨tb, 0, none⟩ = false := (boxC kt.out 0).2
                      have ct1 : wr.cell? ⟨tb, 1, none⟩ = some (.int .i64 C) := (boxC kt.out 1).1
                      have ft1 : wr.frozen? ⟨tb, 1, none⟩ = false := (boxC kt.out 1).2
                      have ct2 : wr.cell? ⟨tb, 2, none⟩ = some (.slice Aa acc.length ca) := (boxC kt.out 2).1
                      have ft2 : wr.frozen? ⟨tb, 2, none⟩ = false := (boxC kt.out 2).2
                      have ct3 : wr.cell? ⟨tb, 3, none⟩ = some (.slice (some ⟨gb, 0, none⟩) n n) := (boxC kt.out 3).1
                      have ft3 : wr.frozen? ⟨tb, 3, none⟩ = false := (boxC kt.out 3).2
                      have ct4 : wr.cell? ⟨tb, 4, none⟩ = some (.slice none 0 0) := (boxC kt.out 4).1
                      have ft4 : wr.frozen? ⟨tb, 4, none⟩ = false := (boxC kt.out 4).2
                      have ct5 : wr.cell? ⟨tb, 5, none⟩ = some (.slice none 0 0) := (boxC kt.out 5).1
                      have ft5 : wr.frozen? ⟨tb, 5, none⟩ = false := (boxC kt.out 5).2
                      have lqd : w.heap.size < wr.heap.size := hx.out.sat.lt (Bd.out 0 _ rfl)
                      have cd0 : wr.cell? ⟨w.heap.size, 0, none⟩ = some (.int .i64 st) := hx.out.sat _ _ _ (Bd.out 0 _ rfl)
                      have cd1 : wr.cell? ⟨w.heap.size, 1, none⟩ = some (.slice A1 acc.length c1) := hx.out.sat _ _ _ (Bd.out 1 _ rfl)
                      have cd2 : wr.cell? ⟨w.heap.size, 2, none⟩ = some (.slice (some ⟨b2, off2, none⟩) n c2) := hx.out.sat _ _ _ (Bd.out 2 _ rfl)
                      go_upto_region 22 with (at_builtin; go_must (refine wpList_app1 kP rfl (.tmp 71) (.tmp 73) 27 rfl 33 Try.underlying27 infoP rfl hsl.out hx.out.sat rfl rfl rfl (y := (-1, -1)) rfl (by omega) (by unfold maxLen; omega) (by omega) ?_); intro v9 w9 ho9 hg9 hs9 hn9; obtain ⟨A9s, c9s, e9, -, -, -, -⟩ := ho9.form; subst e9)
                      clear lqz cz0 fz0 cz1 fz1 cz2 fz2 cz3 fz3 cz4 fz4 cz5 fz5 lqt ct0 ft0 ct1 ft1 ct2 ft2 ct3 ft3 ct4 ft4 ct5 ft5 lqd cd0 cd1 cd2
                      clear hs9 hgbw htbw
                      replace kz := Aside.mk (boxG kz.out hg9 (fun e => by have h1 := (hsl.out.blk e).1; omega))
                      replace kt := Aside.mk (boxG kt.out hg9 (fun e => by have h1 := (hsl.out.blk e).1; omega))
                      replace hx := Aside.mk (hsl.out.extG hx.out (by omega) hg9)
                      replace hob := Aside.mk (hob.out.grown_apart (hsl.out.apart_lo hM2) hg9)
                      replace hsl := Aside.mk ho9
                      clear ho9 hg9 hn9
                      have lqz : w.heap.size + 1 < w9.heap.size := boxL kz.out
                      have cz0 : w9.cell? ⟨w.heap.size + 1, 0, none⟩ = some (.int .i64 0) := (boxC kz.out 0).1
                      have fz0 : w9.frozen? ⟨w.heap.size + 1, 0, none⟩ = false := (boxC kz.out 0).2
                      have cz1 : w9.cell? ⟨w.heap.size + 1, 1, none⟩ = some (.int .i64 0) := (boxC kz.out 1).1
                      have fz1 : w9.frozen? ⟨w.heap.size + 1, 1, none⟩ = false := (boxC kz.out 1).2
                      have cz2 : w9.cell? ⟨w.heap.size + 1, 2, none⟩ = some (.slice none 0 0) := (boxC kz.out 2).1
                      have fz2 : w9.frozen? ⟨w.heap.size + 1, 2, none⟩ = false := (boxC kz.out 2).2
                      have cz3 : w9.cell? ⟨w.heap.size + 1, 3, none⟩ = some (.slice none 0 0) := (boxC kz.out 3).1
                      have fz3 : w9.frozen? ⟨w.heap.size + 1, 3, none⟩ = false := (boxC kz.out 3).2
                      have cz4 : w9.cell? ⟨w.heap.size + 1, 4, none⟩ = some (.slice none 0 0) := (boxC kz.out 4).1
                      have fz4 : w9.frozen? ⟨w.heap.size + 1, 4, none⟩ = false := (boxC kz.out 4).2
                      have cz5 : w9.cell? ⟨w.heap.size + 1, 5, none⟩ = some (.slice none 0 0) := (boxC kz.out 5).1
                      have fz5 : w9.frozen? ⟨w.heap.size + 1, 5, none⟩ = false := (boxC kz.out 5).2
                      have lqt : tb < w9.heap.size := boxL kt.out
                      have ct0 : w9.cell? ⟨tb, 0, none⟩ = some (.int .i64 st) := (boxC kt.out 0).1
                      have ft0 : w9.frozen? ⟨tb, 0, none⟩ = false := (boxC kt.out 0).2
                      have ct1 : w9.cell? ⟨tb, 1, none⟩ = some (.int .i64 C) := (boxC kt.out 1).1
                      have ft1 : w9.frozen? ⟨tb, 1, none⟩ = false := (boxC kt.out 1).2
                      have ct2 : w9.cell? ⟨tb, 2, none⟩ = some (.slice Aa acc.length ca) := (boxC kt.out 2).1
                      have ft2 : w9.frozen? ⟨tb, 2, none⟩ = false := (boxC kt.out 2).2
                      have ct3 : w9.cell? ⟨tb, 3, none⟩ = some (.slice (some ⟨gb, 0, none⟩) n n) := (boxC kt.out 3).1
                      have ft3 : w9.frozen? ⟨tb, 3, none⟩ = false := (boxC kt.out 3).2
                      have ct4 : w9.cell? ⟨tb, 4, none⟩ = some (.slice none 0 0) := (boxC kt.out 4).1
                      have ft4 : w9.frozen? ⟨tb, 4, none⟩ = false := (boxC kt.out 4).2
                      have ct5 : w9.cell? ⟨tb, 5, none⟩ = some (.slice none 0 0) := (boxC kt.out 5).1
                      have ft5 : w9.frozen? ⟨tb, 5, none⟩ = false := (boxC kt.out 5).2
                      have lqd : w.heap.size < w9.heap.size := hx.out.sat.lt (Bd.out 0 _ rfl)
                      have cd0 : w9.cell? ⟨w.heap.size, 0, none⟩ = some (.int .i64 st) := hx.out.sat _ _ _ (Bd.out 0 _ rfl)
                      have cd1 : w9.cell? ⟨w.heap.size, 1, none⟩ = some (.slice A1 acc.length c1) := hx.out.sat _ _ _ (Bd.out 1 _ rfl)
                      have cd2 : w9.cell? ⟨w.heap.size, 2, none⟩ = some (.slice (some ⟨b2, off2, none⟩) n c2) := hx.out.sat _ _ _ (Bd.out 2 _ rfl)
                      go_wp2_with fail
                      clear lqz cz0 fz0 cz1 fz1 cz2 fz2 cz3 fz3 cz4 fz4 cz5 fz5 lqt ct0 ft0 ct1 ft1 ct2 ft2 ct3 ft3 ct4 ft4 ct5 ft5 lqd cd0 cd1 cd2
                      go_roundw
                      case rel => exact ⟨_, _, _, _, by simp, by simp; omega, ⟨hSm.out.room⟩, hx, h2, hacc, hrw, Bd, kz, nz, kt, nt, hob, hsl⟩
                      case measure => (simp [lenS]; omega)
                    case neg =>
                      have hfr := fun W => run_from (P := Try.prog) 27 33 2 Try.underlying27 sizeP As L.length cs b (by omega) (b : Int) rfl W
                      have lqz : w.heap.size + 1 < wr.heap.size := boxL kz.out
                      have cz0 : wr.cell? ⟨w.heap.size + 1, 0, none⟩ = some (.int .i64 0) := (boxC kz.out 0).1
                      have fz0 : wr.frozen? ⟨w.heap.size + 1, 0, none⟩ = false := (boxC kz.out 0).2
                      have cz1 : wr.cell? ⟨w.heap.size + 1, 1, none⟩ = some (.int .i64 0) := (boxC kz.out 1).1
                      have fz1 : wr.frozen? ⟨w.heap.size + 1, 1, none⟩ = false := (boxC kz.out 1).2
                      have cz2 : wr.cell? ⟨w.heap.size + 1, 2, none⟩ = some (.slice none 0 0) := (boxC kz.out 2).1
                      have fz2 : wr.frozen? ⟨w.heap.size + 1, 2, none⟩ = false := (boxC kz.out 2).2
                      have cz3 : wr.cell? ⟨w.heap.size + 1, 3, none⟩ = some (.slice none 0 0) := (boxC kz.out 3).1
                      have fz3 : wr.frozen? ⟨w.heap.size + 1, 3, none⟩ = false := (boxC kz.out 3).2
                      have cz4 : wr.cell? ⟨w.heap.size + 1, 4, none⟩ = some (.slice none 0 0) := (boxC kz.out 4).1
                      have fz4 : wr.frozen? ⟨w.heap.size + 1, 4, none⟩ = false := (boxC kz.out 4).2
                      have cz5 : wr.cell? ⟨w.heap.size + 1, 5, none⟩ = some (.slice none 0 0) := (boxC kz.out 5).1
                      have fz5 : wr.frozen? ⟨w.heap.size + 1, 5, none⟩ = false := (boxC kz.out 5).2
                      have lqt : tb < wr.heap.size := boxL kt.out
                      have ct0 : wr.cell? ⟨tb, 0, none⟩ = some (.int .i64 st) := (boxC kt.out 0).1
                      have ft0 : wr.frozen? ⟨tb, 0, none⟩ = false := (boxC kt.out 0).2
                      have ct1 : wr.cell? ⟨tb, 1, none⟩ = some (.int .i64 C) := (boxC kt.out 1).1
                      have ft1 : wr.frozen? ⟨tb, 1, none⟩ = false := (boxC kt.out 1).2
                      have ct2 : wr.cell? ⟨tb, 2, none⟩ = some (.slice Aa acc.length ca) := (boxC kt.out 2).1
                      have ft2 : wr.frozen? ⟨tb, 2, none⟩ = false := (boxC kt.out 2).2
                      have ct3 : wr.cell? ⟨tb, 3, none⟩ = some (.slice (some ⟨gb, 0, none⟩) n n) := (boxC kt.out 3).1
                      have ft3 : wr.frozen? ⟨tb, 3, none⟩ = false := (boxC kt.out 3).2
                      have ct4 : wr.cell? ⟨tb, 4, none⟩ = some (.slice none 0 0) := (boxC kt.out 4).1
                      have ft4 : wr.frozen? ⟨tb, 4, none⟩ = false := (boxC kt.out 4).2
                      have ct5 : wr.cell? ⟨tb, 5, none⟩ = some (.slice none 0 0) := (boxC kt.out 5).1
                      have ft5 : wr.frozen? ⟨tb, 5, none⟩ = false := (boxC kt.out 5).2
                      have lqd : w.heap.size < wr.heap.size := hx.out.sat.lt (Bd.out 0 _ rfl)
                      have cd0 : wr.cell? ⟨w.heap.size, 0, none⟩ = some (.int .i64 st) := hx.out.sat _ _ _ (Bd.out 0 _ rfl)
                      have cd1 : wr.cell? ⟨w.heap.size, 1, none⟩ = some (.slice A1 acc.length c1) := hx.out.sat _ _ _ (Bd.out 1 _ rfl)
                      have cd2 : wr.cell? ⟨w.heap.size, 2, none⟩ = some (.slice (some ⟨b2, off2, none⟩) n c2) := hx.out.sat _ _ _ (Bd.out 2 _ rfl)
                      go_wp2_with fail
                      clear lqz cz0 fz0 cz1 fz1 cz2 fz2 cz3 fz3 cz4 fz4 cz5 fz5 lqt ct0 ft0 ct1 ft1 ct2 ft2 ct3 ft3 ct4 ft4 ct5 ft5 lqd cd0 cd1 cd2
                      clear hfr
                      obtain ⟨H9, hx9, hle9, ⟨A9, c9, e9, hs9⟩, -⟩ := hsl.out.freezeE hx.out (by omega) (by omega)
                      cases e9
                      have hs8 := hs9.from b (by omega)
                      have hft := fits_hand _ (L.drop b) row _ _ _ _ _ _ hs8 (by rw [hrC.out]; exact hrw.out.mono hle9) hx9.sat (by rw [hrC.out]; omega) (by omega)
                      rw [hrC.out] at hft
                      refine hft.mono ?_
                      rintro e w1 ⟨he, hb9⟩
                      clear hft hs8 hs9 hx9 hle9
                      replace kz := Aside.mk (box_below kz.out hb9)
                      replace kt := Aside.mk (box_below kt.out hb9)
                      replace hob := Aside.mk (hob.out.below hx.out.sat hb9)
                      replace hsl := Aside.mk (hsl.out.below hx.out.sat hb9)
                      replace hx := Aside.mk (hx.out.then_below hb9)
                      clear hb9
                      by_cases hfit : fitsL (L.drop b) row
                      case neg =>
                        obtain rfl : e = .returned (.bool false) := he.trans (dB_f hfit)
                        clear he
                        have hnf : ¬ freeAt P.2.1 row b := fun h => hfit (fitsL_drop.2 ((fits_iff hSm.out).2 h))
                        have hb2 : b < placeN P.2.1 row := by
                            rcases Nat.lt_or_ge b (placeN P.2.1 row) with h | h
                            · exact h
                            · exact absurd (show freeAt P.2.1 row b from (show b = placeN P.2.1 row by omega) ▸ hPs.out.1) hnf
                        have hno2 : Aside (∀ c, c < b + 1 → ¬ freeAt P.2.1 row c) := ⟨fun c hc => by
                            by_cases e : c = b
                            · subst e; exact hnf
                            · exact hno.out c (by omega)⟩
                        clear hfit hnf
                        have lqz : w.heap.size + 1 < w1.heap.size := boxL kz.out
                        have cz0 : w1.cell? ⟨w.heap.size + 1, 0, none⟩ = some (.int .i64 0) := (boxC kz.out 0).1
                        have fz0 : w1.frozen? ⟨w.heap.size + 1, 0, none⟩ = false := (boxC kz.out 0).2
                        have cz1 : w1.cell? ⟨w.heap.size + 1, 1, none⟩ = some (.int .i64 0) := (boxC kz.out 1).1
                        have fz1 : w1.frozen? ⟨w.heap.size + 1, 1, none⟩ = false := (boxC kz.out 1).2
                        have cz2 : w1.cell? ⟨w.heap.size + 1, 2, none⟩ = some (.slice none 0 0) := (boxC kz.out 2).1
                        have fz2 : w1.frozen? ⟨w.heap.size + 1, 2, none⟩ = false := (boxC kz.out 2).2
                        have cz3 : w1.cell? ⟨w.heap.size + 1, 3, none⟩ = some (.slice none 0 0) := (boxC kz.out 3).1
                        have fz3 : w1.frozen? ⟨w.heap.size + 1, 3, none⟩ = false := (boxC kz.out 3).2
                        have cz4 : w1.cell? ⟨w.heap.size + 1, 4, none⟩ = some (.slice none 0 0) := (boxC kz.out 4).1
                        have fz4 : w1.frozen? ⟨w.heap.size + 1, 4, none⟩ = false := (boxC kz.out 4).2
                        have cz5 : w1.cell? ⟨w.heap.size + 1, 5, none⟩ = some (.slice none 0 0) := (boxC kz.out 5).1
                        have fz5 : w1.frozen? ⟨w.heap.size + 1, 5, none⟩ = false := (boxC kz.out 5).2
                        have lqt : tb < w1.heap.size := boxL kt.out
                        have ct0 : w1.cell? ⟨tb, 0, none⟩ = some (.int .i64 st) := (boxC kt.out 0).1
                        have ft0 : w1.frozen? ⟨tb, 0, none⟩ = false := (boxC kt.out 0).2
                        have ct1 : w1.cell? ⟨tb, 1, none⟩ = some (.int .i64 C) := (boxC kt.out 1).1
                        have ft1 : w1.frozen? ⟨tb, 1, none⟩ = false := (boxC kt.out 1).2
                        have ct2 : w1.cell? ⟨tb, 2, none⟩ = some (.slice Aa acc.length ca) := (boxC kt.out 2).1
                        have ft2 : w1.frozen? ⟨tb, 2, none⟩ = false := (boxC kt.out 2).2
                        have ct3 : w1.cell? ⟨tb, 3, none⟩ = some (.slice (some ⟨gb, 0, none⟩) n n) := (boxC kt.out 3).1
                        have ft3 : w1.frozen? ⟨tb, 3, none⟩ = false := (boxC kt.out 3).2
                        have ct4 : w1.cell? ⟨tb, 4, none⟩ = some (.slice none 0 0) := (boxC kt.out 4).1
                        have ft4 : w1.frozen? ⟨tb, 4, none⟩ = false := (boxC kt.out 4).2
                        have ct5 : w1.cell? ⟨tb, 5, none⟩ = some (.slice none 0 0) := (boxC kt.out 5).1
                        have ft5 : w1.frozen? ⟨tb, 5, none⟩ = false := (boxC kt.out 5).2
                        have lqd : w.heap.size < w1.heap.size := hx.out.sat.lt (Bd.out 0 _ rfl)
                        have cd0 : w1.cell? ⟨w.heap.size, 0, none⟩ = some (.int .i64 st) := hx.out.sat _ _ _ (Bd.out 0 _ rfl)
                        have cd1 : w1.cell? ⟨w.heap.size, 1, none⟩ = some (.slice A1 acc.length c1) := hx.out.sat _ _ _ (Bd.out 1 _ rfl)
                        have cd2 : w1.cell? ⟨w.heap.size, 2, none⟩ = some (.slice (some ⟨b2, off2, none⟩) n c2) := hx.out.sat _ _ _ (Bd.out 2 _ rfl)
                        go_wp2_with fail
                        clear lqz cz0 fz0 cz1 fz1 cz2 fz2 cz3 fz3 cz4 fz4 cz5 fz5 lqt ct0 ft0 ct1 ft1 ct2 ft2 ct3 ft3 ct4 ft4 ct5 ft5 lqd cd0 cd1 cd2
                        go_roundw
                        case rel => exact ⟨b + 1, _, _, _, _, by omega, rfl, by go_num, hLD, hSm, hno2, hx, h2, hacc, hrw, Bd, kz, nz, kt, nt, hob, hsl⟩
                        case measure => (first | (simp [intOf]; done) | (simp [intOf]; omega))
                      case pos =>
                        obtain rfl : e = .returned (.bool true) := he.trans (dB_t hfit)
                        clear he
                        have hstp := Same2.step (next := next) (done := doneL next C j i) (l := L) (s := i) (b := b) (by rw [← hP.out]; exact hSm.out) (by rw [← hrow.out]; exact hkey.out.2) (by rw [← hrow.out]; exact fitsL_drop.1 hfit) (fun c hc h => hno.out c hc ((fits_iff hSm.out).1 (by rw [hrow.out]; exact h))) (by rw [← hrow.out, hrC.out]; omega)
                        rw [← hrow.out, ← hP.out, ← hlb.out] at hstp
                        have hbD : b ≤ D := by omega
                        replace hstp := Aside.mk hstp
                        clear hfit hno hb
                        have hfz := Own.free hob.out hlbl.symm i
                        have hcz := OwnI.get (T := 3) hob.out i (by rw [hlbl]; exact hli2)
                        have lqz : w.heap.size + 1 < w1.heap.size := boxL kz.out
                        have cz0 : w1.cell? ⟨w.heap.size + 1, 0, none⟩ = some (.int .i64 0) := (boxC kz.out 0).1
                        have fz0 : w1.frozen? ⟨w.heap.size + 1, 0, none⟩ = false := (boxC kz.out 0).2
                        have cz1 : w1.cell? ⟨w.heap.size + 1, 1, none⟩ = some (.int .i64 0) := (boxC kz.out 1).1
                        have fz1 : w1.frozen? ⟨w.heap.size + 1, 1, none⟩ = false := (boxC kz.out 1).2
                        have cz2 : w1.cell? ⟨w.heap.size + 1, 2, none⟩ = some (.slice none 0 0) := (boxC kz.out 2).1
                        have fz2 : w1.frozen? ⟨w.heap.size + 1, 2, none⟩ = false := (boxC kz.out 2).2
                        have cz3 : w1.cell? ⟨w.heap.size + 1, 3, none⟩ = some (.slice none 0 0) := (boxC kz.out 3).1
                        have fz3 : w1.frozen? ⟨w.heap.size + 1, 3, none⟩ = false := (boxC kz.out 3).2
                        have cz4 : w1.cell? ⟨w.heap.size + 1, 4, none⟩ = some (.slice none 0 0) := (boxC kz.out 4).1
                        have fz4 : w1.frozen? ⟨w.heap.size + 1, 4, none⟩ = false := (boxC kz.out 4).2
                        have cz5 : w1.cell? ⟨w.heap.size + 1, 5, none⟩ = some (.slice none 0 0) := (boxC kz.out 5).1
                        have fz5 : w1.frozen? ⟨w.heap.size + 1, 5, none⟩ = false := (boxC kz.out 5).2
                        have lqt : tb < w1.heap.size := boxL kt.out
                        have ct0 : w1.cell? ⟨tb, 0, none⟩ = some (.int .i64 st) := (boxC kt.out 0).1
                        have ft0 : w1.frozen? ⟨tb, 0, none⟩ = false := (boxC kt.out 0).2
                        have ct1 : w1.cell? ⟨tb, 1, none⟩ = some (.int .i64 C) := (boxC kt.out 1).1
                        have ft1 : w1.frozen? ⟨tb, 1, none⟩ = false := (boxC kt.out 1).2
                        have ct2 : w1.cell? ⟨tb, 2, none⟩ = some (.slice Aa acc.length ca) := (boxC kt.out 2).1
                        have ft2 : w1.frozen? ⟨tb, 2, none⟩ = false := (boxC kt.out 2).2
                        have ct3 : w1.cell? ⟨tb, 3, none⟩ = some (.slice (some ⟨gb, 0, none⟩) n n) := (boxC kt.out 3).1
                        have ft3 : w1.frozen? ⟨tb, 3, none⟩ = false := (boxC kt.out 3).2
                        have ct4 : w1.cell? ⟨tb, 4, none⟩ = some (.slice none 0 0) := (boxC kt.out 4).1
                        have ft4 : w1.frozen? ⟨tb, 4, none⟩ = false := (boxC kt.out 4).2
                        have ct5 : w1.cell? ⟨tb, 5, none⟩ = some (.slice none 0 0) := (boxC kt.out 5).1
                        have ft5 : w1.frozen? ⟨tb, 5, none⟩ = false := (boxC kt.out 5).2
                        have lqd : w.heap.size < w1.heap.size := hx.out.sat.lt (Bd.out 0 _ rfl)
                        have cd0 : w1.cell? ⟨w.heap.size, 0, none⟩ = some (.int .i64 st) := hx.out.sat _ _ _ (Bd.out 0 _ rfl)
                        have cd1 : w1.cell? ⟨w.heap.size, 1, none⟩ = some (.slice A1 acc.length c1) := hx.out.sat _ _ _ (Bd.out 1 _ rfl)
                        have cd2 : w1.cell? ⟨w.heap.size, 2, none⟩ = some (.slice (some ⟨b2, off2, none⟩) n c2) := hx.out.sat _ _ _ (Bd.out 2 _ rfl)
                        go_upto_region 24 with (fail)
                        clear lqz cz0 fz0 cz1 fz1 cz2 fz2 cz3 fz3 cz4 fz4 cz5 fz5 lqt ct0 ft0 ct1 ft1 ct2 ft2 ct3 ft3 ct4 ft4 ct5 ft5 lqd cd0 cd1 cd2
                        clear hfz hcz
                        have ap_sl_ba := Aside.mk (hsl.out.apart_lo (n := n) (c := n) hM2).symm
                        obtain ⟨P2, Q2⟩ := hob.out.put1 hlbl.symm rfl (i := i) (by rw [hlbl]; exact hli2) (y := (b : Int)) (u := .int .i64 (b : Int)) rfl
                        replace kz := Aside.mk (boxG kz.out Q2 (fun e => by have h1 := (hob.out.blk rfl).1; have h2 := Option.some.inj e; omega))
                        replace kt := Aside.mk (boxG kt.out Q2 (fun e => by have h1 := (hob.out.blk rfl).1; have h2 := Option.some.inj e; omega))
                        replace hx := Aside.mk (hob.out.extG hx.out (by omega) Q2)
                        replace hsl := Aside.mk (hsl.out.grown_apart ap_sl_ba.out Q2)
                        replace hob := Aside.mk P2
                        clear P2 Q2
                        generalize (w1.setCell ⟨gb, i, none⟩ (.int .i64 (b : Int))) = W4 at *
                        clear ap_sl_ba
                        have hbl2 : (lb.set i (b : Int)).length = n := by rw [List.length_set]; exact hlbl
                        have hat9 : at0 (lb.set i (b : Int)) i = (b : Int) := by rw [at0_get _ _ (by rw [hbl2]; exact hli2)]; simp
                        generalize lb.set i (b : Int) = lb2 at *
                        replace hat9 := Aside.mk hat9
                        obtain ⟨gs, eAs⟩ : ∃ gs, As = some ⟨gs, 0, none⟩ := by
                            obtain ⟨A9, c9, e9, f1, f2, f3, f4⟩ := hsl.out.form
                            cases e9
                            cases As with
                            | none => have := f3 rfl; omega
                            | some a => exact ⟨a.block, by rw [(f4 a rfl).1]⟩
                        subst eAs
                        have hLb : b + C ≤ L.length := by omega
                        clear hlr
                        have lqz : w.heap.size + 1 < W4.heap.size := boxL kz.out
                        have cz0 : W4.cell? ⟨w.heap.size + 1, 0, none⟩ = some (.int .i64 0) := (boxC kz.out 0).1
                        have fz0 : W4.frozen? ⟨w.heap.size + 1, 0, none⟩ = false := (boxC kz.out 0).2
                        have cz1 : W4.cell? ⟨w.heap.size + 1, 1, none⟩ = some (.int .i64 0) := (boxC kz.out 1).1
                        have fz1 : W4.frozen? ⟨w.heap.size + 1, 1, none⟩ = false := (boxC kz.out 1).2
                        have cz2 : W4.cell? ⟨w.heap.size + 1, 2, none⟩ = some (.slice none 0 0) := (boxC kz.out 2).1
                        have fz2 : W4.frozen? ⟨w.heap.size + 1, 2, none⟩ = false := (boxC kz.out 2).2
                        have cz3 : W4.cell? ⟨w.heap.size + 1, 3, none⟩ = some (.slice none 0 0) := (boxC kz.out 3).1
                        have fz3 : W4.frozen? ⟨w.heap.size + 1, 3, none⟩ = false := (boxC kz.out 3).2
                        have cz4 : W4.cell? ⟨w.heap.size + 1, 4, none⟩ = some (.slice none 0 0) := (boxC kz.out 4).1
                        have fz4 : W4.frozen? ⟨w.heap.size + 1, 4, none⟩ = false := (boxC kz.out 4).2
                        have cz5 : W4.cell? ⟨w.heap.size + 1, 5, none⟩ = some (.slice none 0 0) := (boxC kz.out 5).1
                        have fz5 : W4.frozen? ⟨w.heap.size + 1, 5, none⟩ = false := (boxC kz.out 5).2
                        have lqt : tb < W4.heap.size := boxL kt.out
                        have ct0 : W4.cell? ⟨tb, 0, none⟩ = some (.int .i64 st) := (boxC kt.out 0).1
                        have ft0 : W4.frozen? ⟨tb, 0, none⟩ = false := (boxC kt.out 0).2
                        have ct1 : W4.cell? ⟨tb, 1, none⟩ = some (.int .i64 C) := (boxC kt.out 1).1
                        have ft1 : W4.frozen? ⟨tb, 1, none⟩ = false := (boxC kt.out 1).2
                        have ct2 : W4.cell? ⟨tb, 2, none⟩ = some (.slice Aa acc.length ca) := (boxC kt.out 2).1
                        have ft2 : W4.frozen? ⟨tb, 2, none⟩ = false := (boxC kt.out 2).2
                        have ct3 : W4.cell? ⟨tb, 3, none⟩ = some (.slice (some ⟨gb, 0, none⟩) n n) := (boxC kt.out 3).1
                        have ft3 : W4.frozen? ⟨tb, 3, none⟩ = false := (boxC kt.out 3).2
                        have ct4 : W4.cell? ⟨tb, 4, none⟩ = some (.slice none 0 0) := (boxC kt.out 4).1
                        have ft4 : W4.frozen? ⟨tb, 4, none⟩ = false := (boxC kt.out 4).2
                        have ct5 : W4.cell? ⟨tb, 5, none⟩ = some (.slice none 0 0) := (boxC kt.out 5).1
                        have ft5 : W4.frozen? ⟨tb, 5, none⟩ = false := (boxC kt.out 5).2
                        have lqd : w.heap.size < W4.heap.size := hx.out.sat.lt (Bd.out 0 _ rfl)
                        have cd0 : W4.cell? ⟨w.heap.size, 0, none⟩ = some (.int .i64 st) := hx.out.sat _ _ _ (Bd.out 0 _ rfl)
                        have cd1 : W4.cell? ⟨w.heap.size, 1, none⟩ = some (.slice A1 acc.length c1) := hx.out.sat _ _ _ (Bd.out 1 _ rfl)
                        have cd2 : W4.cell? ⟨w.heap.size, 2, none⟩ = some (.slice (some ⟨b2, off2, none⟩) n c2) := hx.out.sat _ _ _ (Bd.out 2 _ rfl)
                        go_wp2_with fail
                        clear lqz cz0 fz0 cz1 fz1 cz2 fz2 cz3 fz3 cz4 fz4 cz5 fz5 lqt ct0 ft0 ct1 ft1 ct2 ft2 ct3 ft3 ct4 ft4 ct5 ft5 lqd cd0 cd1 cd2
                        replace hsl := Aside.mk (show Own kP 33 W4 M Hs (.slice (some ⟨gs, 0, none⟩) L.length cs) (fillP (i : Int) b 0 (row.take 0) L) from hsl.out)
                        go_loopw [87] (fun s87 wr => ∃ (q : Nat) (Ht : PH), q ≤ C ∧ s87 = .int .i64 q ∧ Aside (Ext H Ht w wr) ∧ Aside (SlR (kS (kI .i64)) Ht (some ⟨b2, off2, none⟩) n c2 next) ∧ Aside (SlR (kI .i64) Ht Aa acc.length ca acc) ∧ Aside (SlR (kI .i64) Ht Ar C cr row) ∧ Aside (BoxH Ht (w.heap.size) [.int .i64 st, .slice A1 acc.length c1, .slice (some ⟨b2, off2, none⟩) n c2]) ∧ Aside (wr.heap[w.heap.size + 1]? = some (.cells #[.int .i64 0, .int .i64 0, .slice none 0 0, .slice none 0 0, .slice none 0 0, .slice none 0 0] 85)) ∧ Aside (∀ o, Ht (w.heap.size + 1) o = none) ∧ Aside (wr.heap[tb]? = some (.cells #[.int .i64 st, .int .i64 C, .slice Aa acc.length ca, .slice (some ⟨gb, 0, none⟩) n n, .slice none 0 0, .slice none 0 0] 85)) ∧ Aside (∀ o, Ht (tb) o = none) ∧ Aside (Own (kI .i64) 3 wr ((w.heap.size + 2)) Ht (.slice (some ⟨gb, 0, none⟩) n n) (lb2)) ∧ Aside (Own kP 33 wr (M) Ht (.slice (some ⟨gs, 0, none⟩) L.length cs) (fillP (i : Int) b 0 (row.take q) L))) (fun s87 _ => C - (intOf s87).toNat)
                        case atStart => exact ⟨0, _, by omega, rfl, hx, h2, hacc, hrw, Bd, kz, nz, kt, nt, ⟨by simpa using hob.out⟩, ⟨by simpa using hsl.out⟩⟩
                        case round =>
                          clear hx h2 hacc hrw Bd kz nz kt nt hob hsl
                          obtain ⟨q, Ht, hq, rfl, hx, h2, hacc, hrw, Bd, kz, nz, kt, nt, hob, hsl⟩ := hrel
                          by_cases hlq : q < C
                          case pos =>
                            have hlqi : (q : Int) < (C : Int) := by omega
                            obtain ⟨b6, o6, eA, hcj⟩ := (hrw.out.wr hx.out.sat).atD q (by rw [hrC.out]; exact hlq)
                            subst eA
                            have hft := fillP_take (i : Int) b row q (by rw [hrC.out]; exact hlq) L
                            generalize row.getD q 0 = y at *
                            have hfl := fillP_len (i : Int) b (row.take q) 0 L
                            generalize fillP (i : Int) b 0 (row.take q) L = L2 at *
                            replace hft := Aside.mk hft
                            replace hfl := Aside.mk hfl
                            by_cases y0 : 0 ≤ y
                            case neg =>
                              have hfn : Aside (fillP (i : Int) b 0 (row.take (q + 1)) L = L2) := ⟨by rw [hft.out, if_pos (by omega)]⟩
                              have lqz : w.heap.size + 1 < wr.heap.size := boxL kz.out
                              have cz0 : wr.cell? ⟨w.heap.size + 1, 0, none⟩ = some (.int .i64 0) := (boxC kz.out 0).1
                              have fz0 : wr.frozen? ⟨w.heap.size + 1, 0, none⟩ = false := (boxC kz.out 0).2
                              have cz1 : wr.cell? ⟨w.heap.size + 1, 1, none⟩ = some (.int .i64 0) := (boxC kz.out 1).1
                              have fz1 : wr.frozen? ⟨w.heap.size + 1, 1, none⟩ = false := (boxC kz.out 1).2
                              have cz2 : wr.cell? ⟨w.heap.size + 1, 2, none⟩ = some (.slice none 0 0) := (boxC kz.out 2).1
                              have fz2 : wr.frozen? ⟨w.heap.size + 1, 2, none⟩ = false := (boxC kz.out 2).2
                              have cz3 : wr.cell? ⟨w.heap.size + 1, 3, none⟩ = some (.slice none 0 0) := (boxC kz.out 3).1
                              have fz3 : wr.frozen? ⟨w.heap.size + 1, 3, none⟩ = false := (boxC kz.out 3).2
                              have cz4 : wr.cell? ⟨w.heap.size + 1, 4, none⟩ = some (.slice none 0 0) := (boxC kz.out 4).1
                              have fz4 : wr.frozen? ⟨w.heap.size + 1, 4, none⟩ = false := (boxC kz.out 4).2
                              have cz5 : wr.cell? ⟨w.heap.size + 1, 5, none⟩ = some (.slice none 0 0) := (boxC kz.out 5).1
                              have fz5 : wr.frozen? ⟨w.heap.size + 1, 5, none⟩ = false := (boxC kz.out 5).2
                              have lqt : tb < wr.heap.size := boxL kt.out
                              have ct0 : wr.cell? ⟨tb, 0, none⟩ = some (.int .i64 st) := (boxC kt.out 0).1
                              have ft0 : wr.frozen? ⟨tb, 0, none⟩ = false := (boxC kt.out 0).2
                              have ct1 : wr.cell? ⟨tb, 1, none⟩ = some (.int .i64 C) := (boxC kt.out 1).1
                              have ft1 : wr.frozen? ⟨tb, 1, none⟩ = false := (boxC kt.out 1).2
                              have ct2 : wr.cell? ⟨tb, 2, none⟩ = some (.slice Aa acc.length ca) := (boxC kt.out 2).1
                              have ft2 : wr.frozen? ⟨tb, 2, none⟩ = false := (boxC kt.out 2).2
                              have ct3 : wr.cell? ⟨tb, 3, none⟩ = some (.slice (some ⟨gb, 0, none⟩) n n) := (boxC kt.out 3).1
                              have ft3 : wr.frozen? ⟨tb, 3, none⟩ = false := (boxC kt.out 3).2
                              have ct4 : wr.cell? ⟨tb, 4, none⟩ = some (.slice none 0 0) := (boxC kt.out 4).1
                              have ft4 : wr.frozen? ⟨tb, 4, none⟩ = false := (boxC kt.out 4).2
                              have ct5 : wr.cell? ⟨tb, 5, none⟩ = some (.slice none 0 0) := (boxC kt.out 5).1
                              have ft5 : wr.frozen? ⟨tb, 5, none⟩ = false := (boxC kt.out 5).2
                              have lqd : w.heap.size < wr.heap.size := hx.out.sat.lt (Bd.out 0 _ rfl)
                              have cd0 : wr.cell? ⟨w.heap.size, 0, none⟩ = some (.int .i64 st) := hx.out.sat _ _ _ (Bd.out 0 _ rfl)
                              have cd1 : wr.cell? ⟨w.heap.size, 1, none⟩ = some (.slice A1 acc.length c1) := hx.out.sat _ _ _ (Bd.out 1 _ rfl)
                              have cd2 : wr.cell? ⟨w.heap.size, 2, none⟩ = some (.slice (some ⟨b2, off2, none⟩) n c2) := hx.out.sat _ _ _ (Bd.out 2 _ rfl)
                              go_wp2_with fail
                              clear lqz cz0 fz0 cz1 fz1 cz2 fz2 cz3 fz3 cz4 fz4 cz5 fz5 lqt ct0 ft0 ct1 ft1 ct2 ft2 ct3 ft3 ct4 ft4 ct5 ft5 lqd cd0 cd1 cd2
                              go_roundw
                              case rel => exact ⟨q + 1, _, by omega, by go_num, hx, h2, hacc, hrw, Bd, kz, nz, kt, nt, hob, ⟨by rw [hfn.out]; exact hsl.out⟩⟩
                              case measure => (first | (simp [intOf]; done) | (simp [intOf]; omega))
                            case pos =>
                              obtain ⟨kk, hkk⟩ : ∃ kk, kk = b + q := ⟨_, rfl⟩
                              have hwb2 : IntKind.i64.wrap ((b : Int) + q) = (kk : Int) := by rw [IntWalk.i64_in _ (by omega)]; omega
                              have hkl : (kk : Int) < (L.length : Int) := by omega
                              have hkl2 : kk < L2.length := by rw [hfl.out]; omega
                              have hfn : Aside (fillP (i : Int) b 0 (row.take (q + 1)) L = L2.set kk ((i : Int), y)) := ⟨by rw [hft.out, if_neg (by omega), hkk]⟩
                              have hbc := OwnI.get (T := 3) hob.out i (by rw [hbl2]; exact hli2)
                              rw [hat9.out] at hbc
                              obtain ⟨ci, ri, gi⟩ := Own.at hsl.out kk hkl2
                              obtain rfl : ci = [.int .i64 L2[kk].1, .int .i64 L2[kk].2] := ri
                              have G0 := gi 0 _ rfl
                              have G1 := gi 1 _ rfl
                              simp only [kP, Nat.add_zero] at G0 G1
                              clear gi
                              generalize L2[kk].1 = z1 at *
                              generalize L2[kk].2 = z2 at *
                              have F0 := Own.free hsl.out hfl.out.symm (kk * 2)
                              have F1 := Own.free hsl.out hfl.out.symm (kk * 2 + 1)
                              replace hkk := Aside.mk hkk
                              have lqz : w.heap.size + 1 < wr.heap.size := boxL kz.out
                              have cz0 : wr.cell? ⟨w.heap.size + 1, 0, none⟩ = some (.int .i64 0) := (boxC kz.out 0).1
                              have fz0 : wr.frozen? ⟨w.heap.size + 1, 0, none⟩ = false := (boxC kz.out 0).2
                              have cz1 : wr.cell? ⟨w.heap.size + 1, 1, none⟩ = some (.int .i64 0) := (boxC kz.out 1).1
                              have fz1 : wr.frozen? ⟨w.heap.size + 1, 1, none⟩ = false := (boxC kz.out 1).2
                              have cz2 : wr.cell? ⟨w.heap.size + 1, 2, none⟩ = some (.slice none 0 0) := (boxC kz.out 2).1
                              have fz2 : wr.frozen? ⟨w.heap.size + 1, 2, none⟩ = false := (boxC kz.out 2).2
                              have cz3 : wr.cell? ⟨w.heap.size + 1, 3, none⟩ = some (.slice none 0 0) := (boxC kz.out 3).1
                              have fz3 : wr.frozen? ⟨w.heap.size + 1, 3, none⟩ = false := (boxC kz.out 3).2
                              have cz4 : wr.cell? ⟨w.heap.size + 1, 4, none⟩ = some (.slice none 0 0) := (boxC kz.out 4).1
                              have fz4 : wr.frozen? ⟨w.heap.size + 1, 4, none⟩ = false := (boxC kz.out 4).2
                              have cz5 : wr.cell? ⟨w.heap.size + 1, 5, none⟩ = some (.slice none 0 0) := (boxC kz.out 5).1
                              have fz5 : wr.frozen? ⟨w.heap.size + 1, 5, none⟩ = false := (boxC kz.out 5).2
                              have lqt : tb < wr.heap.size := boxL kt.out
                              have ct0 : wr.cell? ⟨tb, 0, none⟩ = some (.int .i64 st) := (boxC kt.out 0).1
                              have ft0 : wr.frozen? ⟨tb, 0, none⟩ = false := (boxC kt.out 0).2
                              have ct1 : wr.cell? ⟨tb, 1, none⟩ = some (.int .i64 C) := (boxC kt.out 1).1
                              have ft1 : wr.frozen? ⟨tb, 1, none⟩ = false := (boxC kt.out 1).2
                              have ct2 : wr.cell? ⟨tb, 2, none⟩ = some (.slice Aa acc.length ca) := (boxC kt.out 2).1
                              have ft2 : wr.frozen? ⟨tb, 2, none⟩ = false := (boxC kt.out 2).2
                              have ct3 : wr.cell? ⟨tb, 3, none⟩ = some (.slice (some ⟨gb, 0, none⟩) n n) := (boxC kt.out 3).1
                              have ft3 : wr.frozen? ⟨tb, 3, none⟩ = false := (boxC kt.out 3).2
                              have ct4 : wr.cell? ⟨tb, 4, none⟩ = some (.slice none 0 0) := (boxC kt.out 4).1
                              have ft4 : wr.frozen? ⟨tb, 4, none⟩ = false := (boxC kt.out 4).2
                              have ct5 : wr.cell? ⟨tb, 5, none⟩ = some (.slice none 0 0) := (boxC kt.out 5).1
                              have ft5 : wr.frozen? ⟨tb, 5, none⟩ = false := (boxC kt.out 5).2
                              have lqd : w.heap.size < wr.heap.size := hx.out.sat.lt (Bd.out 0 _ rfl)
                              have cd0 : wr.cell? ⟨w.heap.size, 0, none⟩ = some (.int .i64 st) := hx.out.sat _ _ _ (Bd.out 0 _ rfl)
                              have cd1 : wr.cell? ⟨w.heap.size, 1, none⟩ = some (.slice A1 acc.length c1) := hx.out.sat _ _ _ (Bd.out 1 _ rfl)
                              have cd2 : wr.cell? ⟨w.heap.size, 2, none⟩ = some (.slice (some ⟨b2, off2, none⟩) n c2) := hx.out.sat _ _ _ (Bd.out 2 _ rfl)
                              go_upto_region 29 with (fail)
                              clear lqz cz0 fz0 cz1 fz1 cz2 fz2 cz3 fz3 cz4 fz4 cz5 fz5 lqt ct0 ft0 ct1 ft1 ct2 ft2 ct3 ft3 ct4 ft4 ct5 ft5 lqd cd0 cd1 cd2
                              clear hbc G0 G1 F0 F1
                              have hgsM := (hsl.out.blk (b := gs) rfl).1
                              obtain ⟨P2, Q2⟩ := hsl.out.putP hfl.out.symm (i := kk) hkl2 ((i : Int), y)
                              replace kz := Aside.mk (boxG kz.out Q2 (fun e => by have := Option.some.inj e; omega))
                              replace kt := Aside.mk (boxG kt.out Q2 (fun e => by have := Option.some.inj e; omega))
                              replace hx := Aside.mk (hsl.out.extG hx.out (by omega) Q2)
                              replace hob := Aside.mk (hob.out.grown_apart (hsl.out.apart_lo hM2) Q2)
                              replace hsl := Aside.mk P2
                              clear P2 Q2 hgsM
                              dsimp only at kz kt hx hob hsl
                              generalize ((wr.setCell ⟨gs, kk * 2, none⟩ (.int .i64 (i : Int))).setCell ⟨gs, kk * 2 + 1, none⟩ (.int .i64 y)) = W9 at *
                              have lqz : w.heap.size + 1 < W9.heap.size := boxL kz.out
                              have cz0 : W9.cell? ⟨w.heap.size + 1, 0, none⟩ = some (.int .i64 0) := (boxC kz.out 0).1
                              have fz0 : W9.frozen? ⟨w.heap.size + 1, 0, none⟩ = false := (boxC kz.out 0).2
                              have cz1 : W9.cell? ⟨w.heap.size + 1, 1, none⟩ = some (.int .i64 0) := (boxC kz.out 1).1
                              have fz1 : W9.frozen? ⟨w.heap.size + 1, 1, none⟩ = false := (boxC kz.out 1).2
                              have cz2 : W9.cell? ⟨w.heap.size + 1, 2, none⟩ = some (.slice none 0 0) := (boxC kz.out 2).1
                              have fz2 : W9.frozen? ⟨w.heap.size + 1, 2, none⟩ = false := (boxC kz.out 2).2
                              have cz3 : W9.cell? ⟨w.heap.size + 1, 3, none⟩ = some (.slice none 0 0) := (boxC kz.out 3).1
                              have fz3 : W9.frozen? ⟨w.heap.size + 1, 3, none⟩ = false := (boxC kz.out 3).2
                              have cz4 : W9.cell? ⟨w.heap.size + 1, 4, none⟩ = some (.slice none 0 0) := (boxC kz.out 4).1
                              have fz4 : W9.frozen? ⟨w.heap.size + 1, 4, none⟩ = false := (boxC kz.out 4).2
                              have cz5 : W9.cell? ⟨w.heap.size + 1, 5, none⟩ = some (.slice none 0 0) := (boxC kz.out 5).1
                              have fz5 : W9.frozen? ⟨w.heap.size + 1, 5, none⟩ = false := (boxC kz.out 5).2
                              have lqt : tb < W9.heap.size := boxL kt.out
                              have ct0 : W9.cell? ⟨tb, 0, none⟩ = some (.int .i64 st) := (boxC kt.out 0).1
                              have ft0 : W9.frozen? ⟨tb, 0, none⟩ = false := (boxC kt.out 0).2
                              have ct1 : W9.cell? ⟨tb, 1, none⟩ = some (.int .i64 C) := (boxC kt.out 1).1
                              have ft1 : W9.frozen? ⟨tb, 1, none⟩ = false := (boxC kt.out 1).2
                              have ct2 : W9.cell? ⟨tb, 2, none⟩ = some (.slice Aa acc.length ca) := (boxC kt.out 2).1
                              have ft2 : W9.frozen? ⟨tb, 2, none⟩ = false := (boxC kt.out 2).2
                              have ct3 : W9.cell? ⟨tb, 3, none⟩ = some (.slice (some ⟨gb, 0, none⟩) n n) := (boxC kt.out 3).1
                              have ft3 : W9.frozen? ⟨tb, 3, none⟩ = false := (boxC kt.out 3).2
                              have ct4 : W9.cell? ⟨tb, 4, none⟩ = some (.slice none 0 0) := (boxC kt.out 4).1
                              have ft4 : W9.frozen? ⟨tb, 4, none⟩ = false := (boxC kt.out 4).2
                              have ct5 : W9.cell? ⟨tb, 5, none⟩ = some (.slice none 0 0) := (boxC kt.out 5).1
                              have ft5 : W9.frozen? ⟨tb, 5, none⟩ = false := (boxC kt.out 5).2
                              have lqd : w.heap.size < W9.heap.size := hx.out.sat.lt (Bd.out 0 _ rfl)
                              have cd0 : W9.cell? ⟨w.heap.size, 0, none⟩ = some (.int .i64 st) := hx.out.sat _ _ _ (Bd.out 0 _ rfl)
                              have cd1 : W9.cell? ⟨w.heap.size, 1, none⟩ = some (.slice A1 acc.length c1) := hx.out.sat _ _ _ (Bd.out 1 _ rfl)
                              have cd2 : W9.cell? ⟨w.heap.size, 2, none⟩ = some (.slice (some ⟨b2, off2, none⟩) n c2) := hx.out.sat _ _ _ (Bd.out 2 _ rfl)
                              go_wp2_with fail
                              clear lqz cz0 fz0 cz1 fz1 cz2 fz2 cz3 fz3 cz4 fz4 cz5 fz5 lqt ct0 ft0 ct1 ft1 ct2 ft2 ct3 ft3 ct4 ft4 ct5 ft5 lqd cd0 cd1 cd2
                              go_roundw
                              case rel => exact ⟨q + 1, _, by omega, by go_num, hx, h2, hacc, hrw, Bd, kz, nz, kt, nt, hob, ⟨by rw [hfn.out]; exact hsl.out⟩⟩
                              case measure => (first | (simp [intOf]; done) | (simp [intOf]; omega))
                          case neg =>
                            have hlqi : ¬ (q : Int) < (C : Int) := by omega
                            have hfe : fillP (i : Int) b 0 (row.take q) L = fillP (i : Int) b 0 row L := by rw [List.take_of_length_le (by rw [hrC.out]; omega)]
                            rw [hfe] at hsl
                            clear hfe
                            have hrel2 : Aside (lb2 = (packGo next (doneL next C j (i + 1))).1 ∧ Same2 (fillP (i : Int) b 0 row L) (packGo next (doneL next C j (i + 1))).2 ∧ (fillP (i : Int) b 0 row L).length ≤ (doneL next C j (i + 1)).length * C) := ⟨by
                                rw [doneL_in hkey.out.1]
                                refine ⟨hstp.out.2.symm, hstp.out.1, ?_⟩
                                rw [fillP_len, List.length_append, Nat.add_mul, ← hD.out]
                                simpa using hLD⟩
                            clear hrw
                            have lqz : w.heap.size + 1 < wr.heap.size := boxL kz.out
                            have cz0 : wr.cell? ⟨w.heap.size + 1, 0, none⟩ = some (.int .i64 0) := (boxC kz.out 0).1
                            have fz0 : wr.frozen? ⟨w.heap.size + 1, 0, none⟩ = false := (boxC kz.out 0).2
                            have cz1 : wr.cell? ⟨w.heap.size + 1, 1, none⟩ = some (.int .i64 0) := (boxC kz.out 1).1
                            have fz1 : wr.frozen? ⟨w.heap.size + 1, 1, none⟩ = false := (boxC kz.out 1).2
                            have cz2 : wr.cell? ⟨w.heap.size + 1, 2, none⟩ = some (.slice none 0 0) := (boxC kz.out 2).1
                            have fz2 : wr.frozen? ⟨w.heap.size + 1, 2, none⟩ = false := (boxC kz.out 2).2
                            have cz3 : wr.cell? ⟨w.heap.size + 1, 3, none⟩ = some (.slice none 0 0) := (boxC kz.out 3).1
                            have fz3 : wr.frozen? ⟨w.heap.size + 1, 3, none⟩ = false := (boxC kz.out 3).2
                            have cz4 : wr.cell? ⟨w.heap.size + 1, 4, none⟩ = some (.slice none 0 0) := (boxC kz.out 4).1
                            have fz4 : wr.frozen? ⟨w.heap.size + 1, 4, none⟩ = false := (boxC kz.out 4).2
                            have cz5 : wr.cell? ⟨w.heap.size + 1, 5, none⟩ = some (.slice none 0 0) := (boxC kz.out 5).1
                            have fz5 : wr.frozen? ⟨w.heap.size + 1, 5, none⟩ = false := (boxC kz.out 5).2
                            have lqt : tb < wr.heap.size := boxL kt.out
                            have ct0 : wr.cell? ⟨tb, 0, none⟩ = some (.int .i64 st) := (boxC kt.out 0).1
                            have ft0 : wr.frozen? ⟨tb, 0, none⟩ = false := (boxC kt.out 0).2
                            have ct1 : wr.cell? ⟨tb, 1, none⟩ = some (.int .i64 C) := (boxC kt.out 1).1
                            have ft1 : wr.frozen? ⟨tb, 1, none⟩ = false := (boxC kt.out 1).2
                            have ct2 : wr.cell? ⟨tb, 2, none⟩ = some (.slice Aa acc.length ca) := (boxC kt.out 2).1
                            have ft2 : wr.frozen? ⟨tb, 2, none⟩ = false := (boxC kt.out 2).2
                            have ct3 : wr.cell? ⟨tb, 3, none⟩ = some (.slice (some ⟨gb, 0, none⟩) n n) := (boxC kt.out 3).1
                            have ft3 : wr.frozen? ⟨tb, 3, none⟩ = false := (boxC kt.out 3).2
                            have ct4 : wr.cell? ⟨tb, 4, none⟩ = some (.slice none 0 0) := (boxC kt.out 4).1
                            have ft4 : wr.frozen? ⟨tb, 4, none⟩ = false := (boxC kt.out 4).2
                            have ct5 : wr.cell? ⟨tb, 5, none⟩ = some (.slice none 0 0) := (boxC kt.out 5).1
                            have ft5 : wr.frozen? ⟨tb, 5, none⟩ = false := (boxC kt.out 5).2
                            have lqd : w.heap.size < wr.heap.size := hx.out.sat.lt (Bd.out 0 _ rfl)
                            have cd0 : wr.cell? ⟨w.heap.size, 0, none⟩ = some (.int .i64 st) := hx.out.sat _ _ _ (Bd.out 0 _ rfl)
                            have cd1 : wr.cell? ⟨w.heap.size, 1, none⟩ = some (.slice A1 acc.length c1) := hx.out.sat _ _ _ (Bd.out 1 _ rfl)
                            have cd2 : wr.cell? ⟨w.heap.size, 2, none⟩ = some (.slice (some ⟨b2, off2, none⟩) n c2) := hx.out.sat _ _ _ (Bd.out 2 _ rfl)
                            go_wp2_with fail
                            clear lqz cz0 fz0 cz1 fz1 cz2 fz2 cz3 fz3 cz4 fz4 cz5 fz5 lqt ct0 ft0 ct1 ft1 ct2 ft2 ct3 ft3 ct4 ft4 ct5 ft5 lqd cd0 cd1 cd2
                            go_roundw
                            case rel => exact ⟨i + 1, _, _, _, _, _, by omega, by rw [fillP_len], by go_num, hrel2, hx, h2, hacc, Bd, kz, nz, kt, nt, hob, ⟨by rw [fillP_len]; exact hsl.out⟩⟩
                            case measure => (first | (simp [intOf]; done) | (simp [intOf]; omega))
        case neg =>
          have hlii : ¬ (i : Int) < (n : Int) := by omega
          have hrel2 : Aside (lb = (packGo next (bigs next C (j + 1))).1 ∧ Same2 L (packGo next (bigs next C (j + 1))).2 ∧ L.length ≤ (bigs next C (j + 1)).length * C) := ⟨by
              have h9 := hrel.out
              rw [show i = next.length by rw [← hn.out]; omega, doneL_all] at h9
              exact h9⟩
          have lqz : w.heap.size + 1 < wr.heap.size := boxL kz.out
          have cz0 : wr.cell? ⟨w.heap.size + 1, 0, none⟩ = some (.int .i64 0) := (boxC kz.out 0).1
          have fz0 : wr.frozen? ⟨w.heap.size + 1, 0, none⟩ = false := (boxC kz.out 0).2
          have cz1 : wr.cell? ⟨w.heap.size + 1, 1, none⟩ = some (.int .i64 0) := (boxC kz.out 1).1
          have fz1 : wr.frozen? ⟨w.heap.size + 1, 1, none⟩ = false := (boxC kz.out 1).2
          have cz2 : wr.cell? ⟨w.heap.size + 1, 2, none⟩ = some (.slice none 0 0) := (boxC kz.out 2).1
          have fz2 : wr.frozen? ⟨w.heap.size + 1, 2, none⟩ = false := (boxC kz.out 2).2
          have cz3 : wr.cell? ⟨w.heap.size + 1, 3, none⟩ = some (.slice none 0 0) := (boxC kz.out 3).1
          have fz3 : wr.frozen? ⟨w.heap.size + 1, 3, none⟩ = false := (boxC kz.out 3).2
          have cz4 : wr.cell? ⟨w.heap.size + 1, 4, none⟩ = some (.slice none 0 0) := (boxC kz.out 4).1
          have fz4 : wr.frozen? ⟨w.heap.size + 1, 4, none⟩ = false := (boxC kz.out 4).2
          have cz5 : wr.cell? ⟨w.heap.size + 1, 5, none⟩ = some (.slice none 0 0) := (boxC kz.out 5).1
          have fz5 : wr.frozen? ⟨w.heap.size + 1, 5, none⟩ = false := (boxC kz.out 5).2
          have lqt : tb < wr.heap.size := boxL kt.out
          have ct0 : wr.cell? ⟨tb, 0, none⟩ = some (.int .i64 st) := (boxC kt.out 0).1
          have ft0 : wr.frozen? ⟨tb, 0, none⟩ = false := (boxC kt.out 0).2
          have ct1 : wr.cell? ⟨tb, 1, none⟩ = some (.int .i64 C) := (boxC kt.out 1).1
          have ft1 : wr.frozen? ⟨tb, 1, none⟩ = false := (boxC kt.out 1).2
          have ct2 : wr.cell? ⟨tb, 2, none⟩ = some (.slice Aa acc.length ca) := (boxC kt.out 2).1
          have ft2 : wr.frozen? ⟨tb, 2, none⟩ = false := (boxC kt.out 2).2
          have ct3 : wr.cell? ⟨tb, 3, none⟩ = some (.slice (some ⟨gb, 0, none⟩) n n) := (boxC kt.out 3).1
          have ft3 : wr.frozen? ⟨tb, 3, none⟩ = false := (boxC kt.out 3).2
          have ct4 : wr.cell? ⟨tb, 4, none⟩ = some (.slice none 0 0) := (boxC kt.out 4).1
          have ft4 : wr.frozen? ⟨tb, 4, none⟩ = false := (boxC kt.out 4).2
          have ct5 : wr.cell? ⟨tb, 5, none⟩ = some (.slice none 0 0) := (boxC kt.out 5).1
          have ft5 : wr.frozen? ⟨tb, 5, none⟩ = false := (boxC kt.out 5).2
          have lqd : w.heap.size < wr.heap.size := hx.out.sat.lt (Bd.out 0 _ rfl)
          have cd0 : wr.cell? ⟨w.heap.size, 0, none⟩ = some (.int .i64 st) := hx.out.sat _ _ _ (Bd.out 0 _ rfl)
          have cd1 : wr.cell? ⟨w.heap.size, 1, none⟩ = some (.slice A1 acc.length c1) := hx.out.sat _ _ _ (Bd.out 1 _ rfl)
          have cd2 : wr.cell? ⟨w.heap.size, 2, none⟩ = some (.slice (some ⟨b2, off2, none⟩) n c2) := hx.out.sat _ _ _ (Bd.out 2 _ rfl)
          go_wp2_with fail
          clear lqz cz0 fz0 cz1 fz1 cz2 fz2 cz3 fz3 cz4 fz4 cz5 fz5 lqt ct0 ft0 ct1 ft1 ct2 ft2 ct3 ft3 ct4 ft4 ct5 ft5 lqd cd0 cd1 cd2
          go_roundw
          case rel => exact ⟨j + 1, _, _, _, _, _, by omega, rfl, by congr 1; omega, hrel2, hx, h2, hacc, Bd, kz, nz, kt, nt, hob, hsl⟩
          case measure => (first | (simp [intOf]; done) | (simp [intOf]; omega))
    case neg =>
      have hli : ¬ (1 : Int) ≤ (C : Int) - j := by omega
      have hjC := Aside.mk (show j = C by omega)
      rw [hjC.out] at hrel
      clear hj
      have lqz : w.heap.size + 1 < wr.heap.size := boxL kz.out
      have cz0 : wr.cell? ⟨w.heap.size + 1, 0, none⟩ = some (.int .i64 0) := (boxC kz.out 0).1
      have fz0 : wr.frozen? ⟨w.heap.size + 1, 0, none⟩ = false := (boxC kz.out 0).2
      have cz1 : wr.cell? ⟨w.heap.size + 1, 1, none⟩ = some (.int .i64 0) := (boxC kz.out 1).1
      have fz1 : wr.frozen? ⟨w.heap.size + 1, 1, none⟩ = false := (boxC kz.out 1).2
      have cz2 : wr.cell? ⟨w.heap.size + 1, 2, none⟩ = some (.slice none 0 0) := (boxC kz.out 2).1
      have fz2 : wr.frozen? ⟨w.heap.size + 1, 2, none⟩ = false := (boxC kz.out 2).2
      have cz3 : wr.cell? ⟨w.heap.size + 1, 3, none⟩ = some (.slice none 0 0) := (boxC kz.out 3).1
      have fz3 : wr.frozen? ⟨w.heap.size + 1, 3, none⟩ = false := (boxC kz.out 3).2
      have cz4 : wr.cell? ⟨w.heap.size + 1, 4, none⟩ = some (.slice none 0 0) := (boxC kz.out 4).1
      have fz4 : wr.frozen? ⟨w.heap.size + 1, 4, none⟩ = false := (boxC kz.out 4).2
      have cz5 : wr.cell? ⟨w.heap.size + 1, 5, none⟩ = some (.slice none 0 0) := (boxC kz.out 5).1
      have fz5 : wr.frozen? ⟨w.heap.size + 1, 5, none⟩ = false := (boxC kz.out 5).2
      have lqt : tb < wr.heap.size := boxL kt.out
      have ct0 : wr.cell? ⟨tb, 0, none⟩ = some (.int .i64 st) := (boxC kt.out 0).1
      have ft0 : wr.frozen? ⟨tb, 0, none⟩ = false := (boxC kt.out 0).2
      have ct1 : wr.cell? ⟨tb, 1, none⟩ = some (.int .i64 C) := (boxC kt.out 1).1
      have ft1 : wr.frozen? ⟨tb, 1, none⟩ = false := (boxC kt.out 1).2
      have ct2 : wr.cell? ⟨tb, 2, none⟩ = some (.slice Aa acc.length ca) := (boxC kt.out 2).1
      have ft2 : wr.frozen? ⟨tb, 2, none⟩ = false := (boxC kt.out 2).2
      have ct3 : wr.cell? ⟨tb, 3, none⟩ = some (.slice (some ⟨gb, 0, none⟩) n n) := (boxC kt.out 3).1
      have ft3 : wr.frozen? ⟨tb, 3, none⟩ = false := (boxC kt.out 3).2
      have ct4 : wr.cell? ⟨tb, 4, none⟩ = some (.slice none 0 0) := (boxC kt.out 4).1
      have ft4 : wr.frozen? ⟨tb, 4, none⟩ = false := (boxC kt.out 4).2
      have ct5 : wr.cell? ⟨tb, 5, none⟩ = some (.slice none 0 0) := (boxC kt.out 5).1
      have ft5 : wr.frozen? ⟨tb, 5, none⟩ = false := (boxC kt.out 5).2
      have lqd : w.heap.size < wr.heap.size := hx.out.sat.lt (Bd.out 0 _ rfl)
      have cd0 : wr.cell? ⟨w.heap.size, 0, none⟩ = some (.int .i64 st) := hx.out.sat _ _ _ (Bd.out 0 _ rfl)
      have cd1 : wr.cell? ⟨w.heap.size, 1, none⟩ = some (.slice A1 acc.length c1) := hx.out.sat _ _ _ (Bd.out 1 _ rfl)
      have cd2 : wr.cell? ⟨w.heap.size, 2, none⟩ = some (.slice (some ⟨b2, off2, none⟩) n c2) := hx.out.sat _ _ _ (Bd.out 2 _ rfl)
      go_upto_block 12 with (fail)
      clear lqz cz0 fz0 cz1 fz1 cz2 fz2 cz3 fz3 cz4 fz4 cz5 fz5 lqt ct0 ft0 ct1 ft1 ct2 ft2 ct3 ft3 ct4 ft4 ct5 ft5 lqd cd0 cd1 cd2
      have hLn : L.length ≤ 3200 := by have := doneL_len (next := next) (cols := C) (j := C - 1) (s := next.length) (fun s hs => hrl.out s (by rw [hn.out]; exact hs)) (by omega) (Nat.le_refl _); rw [doneL_all, show C - 1 + 1 = C by omega, ← hn.out] at this; exact Nat.le_trans hrel.out.2.2 (Nat.le_trans (Nat.mul_le_mul (Nat.le_trans this hnb.2) hCb.2) (by omega))
      go_cut [6] (fun s6 wc => ∃ (m : Nat) (Hn : PH), m ≤ L.length ∧ s6 = .slice As m cs ∧ Aside (∀ t, m ≤ t → t < L.length → gm (fsts L) t < 0) ∧ Aside (∀ t, t + 1 = m → ¬ gm (fsts L) t < 0) ∧ Aside (Ext H Hn w wc) ∧ Aside (SlR (kS (kI .i64)) Hn (some ⟨b2, off2, none⟩) n c2 next) ∧ Aside (SlR (kI .i64) Hn Aa acc.length ca acc) ∧ Aside (BoxH Hn (w.heap.size) [.int .i64 st, .slice A1 acc.length c1, .slice (some ⟨b2, off2, none⟩) n c2]) ∧ Aside (wc.heap[w.heap.size + 1]? = some (.cells #[.int .i64 0, .int .i64 0, .slice none 0 0, .slice none 0 0, .slice none 0 0, .slice none 0 0] 85)) ∧ Aside (∀ o, Hn (w.heap.size + 1) o = none) ∧ Aside (wc.heap[tb]? = some (.cells #[.int .i64 st, .int .i64 C, .slice Aa acc.length ca, .slice (some ⟨gb, 0, none⟩) n n, .slice none 0 0, .slice none 0 0] 85)) ∧ Aside (∀ o, Hn (tb) o = none) ∧ Aside (Own (kI .i64) 3 wc ((w.heap.size + 2)) Hn (.slice (some ⟨gb, 0, none⟩) n n) (lb)) ∧ Aside (Own kP 33 wc (M) Hn (.slice As m cs) (L.take m)))
      case first =>
        have lqz : w.heap.size + 1 < wr.heap.size := boxL kz.out
        have cz0 : wr.cell? ⟨w.heap.size + 1, 0, none⟩ = some (.int .i64 0) := (boxC kz.out 0).1
        have fz0 : wr.frozen? ⟨w.heap.size + 1, 0, none⟩ = false := (boxC kz.out 0).2
        have cz1 : wr.cell? ⟨w.heap.size + 1, 1, none⟩ = some (.int .i64 0) := (boxC kz.out 1).1
        have fz1 : wr.frozen? ⟨w.heap.size + 1, 1, none⟩ = false := (boxC kz.out 1).2
        have cz2 : wr.cell? ⟨w.heap.size + 1, 2, none⟩ = some (.slice none 0 0) := (boxC kz.out 2).1
        have fz2 : wr.frozen? ⟨w.heap.size + 1, 2, none⟩ = false := (boxC kz.out 2).2
        have cz3 : wr.cell? ⟨w.heap.size + 1, 3, none⟩ = some (.slice none 0 0) := (boxC kz.out 3).1
        have fz3 : wr.frozen? ⟨w.heap.size + 1, 3, none⟩ = false := (boxC kz.out 3).2
        have cz4 : wr.cell? ⟨w.heap.size + 1, 4, none⟩ = some (.slice none 0 0) := (boxC kz.out 4).1
        have fz4 : wr.frozen? ⟨w.heap.size + 1, 4, none⟩ = false := (boxC kz.out 4).2
        have cz5 : wr.cell? ⟨w.heap.size + 1, 5, none⟩ = some (.slice none 0 0) := (boxC kz.out 5).1
        have fz5 : wr.frozen? ⟨w.heap.size + 1, 5, none⟩ = false := (boxC kz.out 5).2
        have lqt : tb < wr.heap.size := boxL kt.out
        have ct0 : wr.cell? ⟨tb, 0, none⟩ = some (.int .i64 st) := (boxC kt.out 0).1
        have ft0 : wr.frozen? ⟨tb, 0, none⟩ = false := (boxC kt.out 0).2
        have ct1 : wr.cell? ⟨tb, 1, none⟩ = some (.int .i64 C) := (boxC kt.out 1).1
        have ft1 : wr.frozen? ⟨tb, 1, none⟩ = false := (boxC kt.out 1).2
        have ct2 : wr.cell? ⟨tb, 2, none⟩ = some (.slice Aa acc.length ca) := (boxC kt.out 2).1
        have ft2 : wr.frozen? ⟨tb, 2, none⟩ = false := (boxC kt.out 2).2
        have ct3 : wr.cell? ⟨tb, 3, none⟩ = some (.slice (some ⟨gb, 0, none⟩) n n) := (boxC kt.out 3).1
        have ft3 : wr.frozen? ⟨tb, 3, none⟩ = false := (boxC kt.out 3).2
        have ct4 : wr.cell? ⟨tb, 4, none⟩ = some (.slice none 0 0) := (boxC kt.out 4).1
        have ft4 : wr.frozen? ⟨tb, 4, none⟩ = false := (boxC kt.out 4).2
        have ct5 : wr.cell? ⟨tb, 5, none⟩ = some (.slice none 0 0) := (boxC kt.out 5).1
        have ft5 : wr.frozen? ⟨tb, 5, none⟩ = false := (boxC kt.out 5).2
        have lqd : w.heap.size < wr.heap.size := hx.out.sat.lt (Bd.out 0 _ rfl)
        have cd0 : wr.cell? ⟨w.heap.size, 0, none⟩ = some (.int .i64 st) := hx.out.sat _ _ _ (Bd.out 0 _ rfl)
        have cd1 : wr.cell? ⟨w.heap.size, 1, none⟩ = some (.slice A1 acc.length c1) := hx.out.sat _ _ _ (Bd.out 1 _ rfl)
        have cd2 : wr.cell? ⟨w.heap.size, 2, none⟩ = some (.slice (some ⟨b2, off2, none⟩) n c2) := hx.out.sat _ _ _ (Bd.out 2 _ rfl)
        go_wp2_with fail
        clear lqz cz0 fz0 cz1 fz1 cz2 fz2 cz3 fz3 cz4 fz4 cz5 fz5 lqt ct0 ft0 ct1 ft1 ct2 ft2 ct3 ft3 ct4 ft4 ct5 ft5 lqd cd0 cd1 cd2
        go_loopw [6] (fun s6 wr => ∃ (m : Nat) (Hq : PH), m ≤ L.length ∧ s6 = .slice As m cs ∧ Aside (∀ t, m ≤ t → t < L.length → gm (fsts L) t < 0) ∧ Aside (Ext H Hq w wr) ∧ Aside (SlR (kS (kI .i64)) Hq (some ⟨b2, off2, none⟩) n c2 next) ∧ Aside (SlR (kI .i64) Hq Aa acc.length ca acc) ∧ Aside (BoxH Hq (w.heap.size) [.int .i64 st, .slice A1 acc.length c1, .slice (some ⟨b2, off2, none⟩) n c2]) ∧ Aside (wr.heap[w.heap.size + 1]? = some (.cells #[.int .i64 0, .int .i64 0, .slice none 0 0, .slice none 0 0, .slice none 0 0, .slice none 0 0] 85)) ∧ Aside (∀ o, Hq (w.heap.size + 1) o = none) ∧ Aside (wr.heap[tb]? = some (.cells #[.int .i64 st, .int .i64 C, .slice Aa acc.length ca, .slice (some ⟨gb, 0, none⟩) n n, .slice none 0 0, .slice none 0 0] 85)) ∧ Aside (∀ o, Hq (tb) o = none) ∧ Aside (Own (kI .i64) 3 wr ((w.heap.size + 2)) Hq (.slice (some ⟨gb, 0, none⟩) n n) (lb)) ∧ Aside (Own kP 33 wr (M) Hq (.slice As m cs) (L.take m))) (fun s6 _ => lenS s6)
        case atStart => exact ⟨L.length, _, by omega, rfl, ⟨fun t h1 h2 => by omega⟩, hx, h2, hacc, Bd, kz, nz, kt, nt, ⟨by simpa using hob.out⟩, ⟨by simpa using hsl.out⟩⟩
        case round =>
          clear hx h2 hacc Bd kz nz kt nt hob hsl
          obtain ⟨m, Hq, hm, rfl, hfree, hx, h2, hacc, Bd, kz, nz, kt, nt, hob, hsl⟩ := hrel
          have htl : (L.take m).length = m := by simp; omega
          cases m with
          | zero =>
            clear htl
            have lqz : w.heap.size + 1 < wr.heap.size := boxL kz.out
            have cz0 : wr.cell? ⟨w.heap.size + 1, 0, none⟩ = some (.int .i64 0) := (boxC kz.out 0).1
            have fz0 : wr.frozen? ⟨w.heap.size + 1, 0, none⟩ = false := (boxC kz.out 0).2
            have cz1 : wr.cell? ⟨w.heap.size + 1, 1, none⟩ = some (.int .i64 0) := (boxC kz.out 1).1
            have fz1 : wr.frozen? ⟨w.heap.size + 1, 1, none⟩ = false := (boxC kz.out 1).2
            have cz2 : wr.cell? ⟨w.heap.size + 1, 2, none⟩ = some (.slice none 0 0) := (boxC kz.out 2).1
            have fz2 : wr.frozen? ⟨w.heap.size + 1, 2, none⟩ = false := (boxC kz.out 2).2
            have cz3 : wr.cell? ⟨w.heap.size + 1, 3, none⟩ = some (.slice none 0 0) := (boxC kz.out 3).1
            have fz3 : wr.frozen? ⟨w.heap.size + 1, 3, none⟩ = false := (boxC kz.out 3).2
            have cz4 : wr.cell? ⟨w.heap.size + 1, 4, none⟩ = some (.slice none 0 0) := (boxC kz.out 4).1
            have fz4 : wr.frozen? ⟨w.heap.size + 1, 4, none⟩ = false := (boxC kz.out 4).2
            have cz5 : wr.cell? ⟨w.heap.size + 1, 5, none⟩ = some (.slice none 0 0) := (boxC kz.out 5).1
            have fz5 : wr.frozen? ⟨w.heap.size + 1, 5, none⟩ = false := (boxC kz.out 5).2
            have lqt : tb < wr.heap.size := boxL kt.out
            have ct0 : wr.cell? ⟨tb, 0, none⟩ = some (.int .i64 st) := (boxC kt.out 0).1
            have ft0 : wr.frozen? ⟨tb, 0, none⟩ = false := (boxC kt.out 0).2
            have ct1 : wr.cell? ⟨tb, 1, none⟩ = some (.int .i64 C) := (boxC kt.out 1).1
            have ft1 : wr.frozen? ⟨tb, 1, none⟩ = false := (boxC kt.out 1).2
            have ct2 : wr.cell? ⟨tb, 2, none⟩ = some (.slice Aa acc.length ca) := (boxC kt.out 2).1
            have ft2 : wr.frozen? ⟨tb, 2, none⟩ = false := (boxC kt.out 2).2
            have ct3 : wr.cell? ⟨tb, 3, none⟩ = some (.slice (some ⟨gb, 0, none⟩) n n) := (boxC kt.out 3).1
            have ft3 : wr.frozen? ⟨tb, 3, none⟩ = false := (boxC kt.out 3).2
            have ct4 : wr.cell? ⟨tb, 4, none⟩ = some (.slice none 0 0) := (boxC kt.out 4).1
            have ft4 : wr.frozen? ⟨tb, 4, none⟩ = false := (boxC kt.out 4).2
            have ct5 : wr.cell? ⟨tb, 5, none⟩ = some (.slice none 0 0) := (boxC kt.out 5).1
            have ft5 : wr.frozen? ⟨tb, 5, none⟩ = false := (boxC kt.out 5).2
            have lqd : w.heap.size < wr.heap.size := hx.out.sat.lt (Bd.out 0 _ rfl)
            have cd0 : wr.cell? ⟨w.heap.size, 0, none⟩ = some (.int .i64 st) := hx.out.sat _ _ _ (Bd.out 0 _ rfl)
            have cd1 : wr.cell? ⟨w.heap.size, 1, none⟩ = some (.slice A1 acc.length c1) := hx.out.sat _ _ _ (Bd.out 1 _ rfl)
            have cd2 : wr.cell? ⟨w.heap.size, 2, none⟩ = some (.slice (some ⟨b2, off2, none⟩) n c2) := hx.out.sat _ _ _ (Bd.out 2 _ rfl)
            go_wp2_with fail
            clear lqz cz0 fz0 cz1 fz1 cz2 fz2 cz3 fz3 cz4 fz4 cz5 fz5 lqt ct0 ft0 ct1 ft1 ct2 ft2 ct3 ft3 ct4 ft4 ct5 ft5 lqd cd0 cd1 cd2
            go_meet
            exact ⟨0, _, by omega, rfl, hfree, ⟨fun t ht => by omega⟩, hx, h2, hacc, Bd, kz, nz, kt, nt, hob, hsl⟩
          | succ t =>
            obtain ⟨gs, eAs⟩ : ∃ gs, As = some ⟨gs, 0, none⟩ := by
                obtain ⟨A9, c9, e9, f1, f2, f3, f4⟩ := hsl.out.form
                rw [htl] at e9
                cases e9
                cases As with
                | none => have := f3 rfl; omega
                | some a => exact ⟨a.block, by rw [(f4 a rfl).1]⟩
            subst eAs
            obtain ⟨ci, ri, gi⟩ := Own.at hsl.out t (by omega)
            obtain rfl : ci = [.int .i64 (L.take (t + 1))[t].1, .int .i64 (L.take (t + 1))[t].2] := ri
            have G0 := gi 0 _ rfl
            simp only [kP, Nat.add_zero] at G0
            clear gi
            have hz1 : (L.take (t + 1))[t].1 = gm (fsts L) t := by rw [gm_fsts (by omega), List.getElem_take]
            rw [hz1] at G0
            clear hz1
            have hfr2 := Aside.mk (fun (h : gm (fsts L) t < 0) => show ∀ u, t ≤ u → u < L.length → gm (fsts L) u < 0 from fun u h1 h2 => by
                by_cases e : u = t
                · subst e; exact h
                · exact hfree.out u (by omega) h2)
            have hla2 := Aside.mk (fun (h : ¬ gm (fsts L) t < 0) => show ∀ u, u + 1 = t + 1 → ¬ gm (fsts L) u < 0 from fun u h1 => by
                obtain rfl : u = t := by omega
                exact h)
            generalize gm (fsts L) t = z1 at *
            have hw1 : IntKind.i64.wrap ((t : Int) + 1 - 1) = t := by rw [IntWalk.i64_in _ (by omega)]; omega
            have hw2 : IntKind.i64.wrap (t : Int) = t := IntWalk.i64_in _ (by omega)
            have hp1 : (0 : Int) < (t : Int) + 1 := by omega
            have hcs : t + 1 ≤ cs := by obtain ⟨A9, c9, e9, f1, -⟩ := hsl.out.form; rw [htl] at e9; cases e9; rw [htl] at f1; exact f1
            by_cases z0 : z1 < 0
            case neg =>
              replace hla2 := Aside.mk (hla2.out z0)
              clear htl
              have lqz : w.heap.size + 1 < wr.heap.size := boxL kz.out
              have cz0 : wr.cell? ⟨w.heap.size + 1, 0, none⟩ = some (.int .i64 0) := (boxC kz.out 0).1
              have fz0 : wr.frozen? ⟨w.heap.size + 1, 0, none⟩ = false := (boxC kz.out 0).2
              have cz1 : wr.cell? ⟨w.heap.size + 1, 1, none⟩ = some (.int .i64 0) := (boxC kz.out 1).1
              have fz1 : wr.frozen? ⟨w.heap.size + 1, 1, none⟩ = false := (boxC kz.out 1).2
              have cz2 : wr.cell? ⟨w.heap.size + 1, 2, none⟩ = some (.slice none 0 0) := (boxC kz.out 2).1
              have fz2 : wr.frozen? ⟨w.heap.size + 1, 2, none⟩ = false := (boxC kz.out 2).2
              have cz3 : wr.cell? ⟨w.heap.size + 1, 3, none⟩ = some (.slice none 0 0) := (boxC kz.out 3).1
              have fz3 : wr.frozen? ⟨w.heap.size + 1, 3, none⟩ = false := (boxC kz.out 3).2
              have cz4 : wr.cell? ⟨w.heap.size + 1, 4, none⟩ = some (.slice none 0 0) := (boxC kz.out 4).1
              have fz4 : wr.frozen? ⟨w.heap.size + 1, 4, none⟩ = false := (boxC kz.out 4).2
              have cz5 : wr.cell? ⟨w.heap.size + 1, 5, none⟩ = some (.slice none 0 0) := (boxC kz.out 5).1
              have fz5 : wr.frozen? ⟨w.heap.size + 1, 5, none⟩ = false := (boxC kz.out 5).2
              have lqt : tb < wr.heap.size := boxL kt.out
              have ct0 : wr.cell? ⟨tb, 0, none⟩ = some (.int .i64 st) := (boxC kt.out 0).1
              have ft0 : wr.frozen? ⟨tb, 0, none⟩ = false := (boxC kt.out 0).2
              have ct1 : wr.cell? ⟨tb, 1, none⟩ = some (.int .i64 C) := (boxC kt.out 1).1
              have ft1 : wr.frozen? ⟨tb, 1, none⟩ = false := (boxC kt.out 1).2
              have ct2 : wr.cell? ⟨tb, 2, none⟩ = some (.slice Aa acc.length ca) := (boxC kt.out 2).1
              have ft2 : wr.frozen? ⟨tb, 2, none⟩ = false := (boxC kt.out 2).2
              have ct3 : wr.cell? ⟨tb, 3, none⟩ = some (.slice (some ⟨gb, 0, none⟩) n n) := (boxC kt.out 3).1
              have ft3 : wr.frozen? ⟨tb, 3, none⟩ = false := (boxC kt.out 3).2
              have ct4 : wr.cell? ⟨tb, 4, none⟩ = some (.slice none 0 0) := (boxC kt.out 4).1
              have ft4 : wr.frozen? ⟨tb, 4, none⟩ = false := (boxC kt.out 4).2
              have ct5 : wr.cell? ⟨tb, 5, none⟩ = some (.slice none 0 0) := (boxC kt.out 5).1
              have ft5 : wr.frozen? ⟨tb, 5, none⟩ = false := (boxC kt.out 5).2
              have lqd : w.heap.size < wr.heap.size := hx.out.sat.lt (Bd.out 0 _ rfl)
              have cd0 : wr.cell? ⟨w.heap.size, 0, none⟩ = some (.int .i64 st) := hx.out.sat _ _ _ (Bd.out 0 _ rfl)
              have cd1 : wr.cell? ⟨w.heap.size, 1, none⟩ = some (.slice A1 acc.length c1) := hx.out.sat _ _ _ (Bd.out 1 _ rfl)
              have cd2 : wr.cell? ⟨w.heap.size, 2, none⟩ = some (.slice (some ⟨b2, off2, none⟩) n c2) := hx.out.sat _ _ _ (Bd.out 2 _ rfl)
              go_wp2_with fail
              clear lqz cz0 fz0 cz1 fz1 cz2 fz2 cz3 fz3 cz4 fz4 cz5 fz5 lqt ct0 ft0 ct1 ft1 ct2 ft2 ct3 ft3 ct4 ft4 ct5 ft5 lqd cd0 cd1 cd2
              go_meet
              exact ⟨t + 1, _, hm, rfl, hfree, hla2, hx, h2, hacc, Bd, kz, nz, kt, nt, hob, hsl⟩
            case pos =>
              replace hfr2 := Aside.mk (hfr2.out z0)
              have hto := fun W => run_to (P := Try.prog) 27 33 2 Try.underlying27 sizeP (some ⟨gs, 0, none⟩) (t + 1) cs t (by omega) (t : Int) rfl W
              have hct := Own.cut (A := some ⟨gs, 0, none⟩) (c := cs) (by rw [htl]; exact hsl.out) t (by omega) (by omega)
              rw [List.take_take, Nat.min_eq_left (by omega)] at hct
              replace hsl := Aside.mk hct
              clear hct htl
              have lqz : w.heap.size + 1 < wr.heap.size := boxL kz.out
              have cz0 : wr.cell? ⟨w.heap.size + 1, 0, none⟩ = some (.int .i64 0) := (boxC kz.out 0).1
              have fz0 : wr.frozen? ⟨w.heap.size + 1, 0, none⟩ = false := (boxC kz.out 0).2
              have cz1 : wr.cell? ⟨w.heap.size + 1, 1, none⟩ = some (.int .i64 0) := (boxC kz.out 1).1
              have fz1 : wr.frozen? ⟨w.heap.size + 1, 1, none⟩ = false := (boxC kz.out 1).2
              have cz2 : wr.cell? ⟨w.heap.size + 1, 2, none⟩ = some (.slice none 0 0) := (boxC kz.out 2).1
              have fz2 : wr.frozen? ⟨w.heap.size + 1, 2, none⟩ = false := (boxC kz.out 2).2
              have cz3 : wr.cell? ⟨w.heap.size + 1, 3, none⟩ = some (.slice none 0 0) := (boxC kz.out 3).1
              have fz3 : wr.frozen? ⟨w.heap.size + 1, 3, none⟩ = false := (boxC kz.out 3).2
              have cz4 : wr.cell? ⟨w.heap.size + 1, 4, none⟩ = some (.slice none 0 0) := (boxC kz.out 4).1
              have fz4 : wr.frozen? ⟨w.heap.size + 1, 4, none⟩ = false := (boxC kz.out 4).2
              have cz5 : wr.cell? ⟨w.heap.size + 1, 5, none⟩ = some (.slice none 0 0) := (boxC kz.out 5).1
              have fz5 : wr.frozen? ⟨w.heap.size + 1, 5, none⟩ = false := (boxC kz.out 5).2
              have lqt : tb < wr.heap.size := boxL kt.out
              have ct0 : wr.cell? ⟨tb, 0, none⟩ = some (.int .i64 st) := (boxC kt.out 0).1
              have ft0 : wr.frozen? ⟨tb, 0, none⟩ = false := (boxC kt.out 0).2
              have ct1 : wr.cell? ⟨tb, 1, none⟩ = some (.int .i64 C) := (boxC kt.out 1).1
              have ft1 : wr.frozen? ⟨tb, 1, none⟩ = false := (boxC kt.out 1).2
              have ct2 : wr.cell? ⟨tb, 2, none⟩ = some (.slice Aa acc.length ca) := (boxC kt.out 2).1
              have ft2 : wr.frozen? ⟨tb, 2, none⟩ = false := (boxC kt.out 2).2
              have ct3 : wr.cell? ⟨tb, 3, none⟩ = some (.slice (some ⟨gb, 0, none⟩) n n) := (boxC kt.out 3).1
              have ft3 : wr.frozen? ⟨tb, 3, none⟩ = false := (boxC kt.out 3).2
              have ct4 : wr.cell? ⟨tb, 4, none⟩ = some (.slice none 0 0) := (boxC kt.out 4).1
              have ft4 : wr.frozen? ⟨tb, 4, none⟩ = false := (boxC kt.out 4).2
              have ct5 : wr.cell? ⟨tb, 5, none⟩ = some (.slice none 0 0) := (boxC kt.out 5).1
              have ft5 : wr.frozen? ⟨tb, 5, none⟩ = false := (boxC kt.out 5).2
              have lqd : w.heap.size < wr.heap.size := hx.out.sat.lt (Bd.out 0 _ rfl)
              have cd0 : wr.cell? ⟨w.heap.size, 0, none⟩ = some (.int .i64 st) := hx.out.sat _ _ _ (Bd.out 0 _ rfl)
              have cd1 : wr.cell? ⟨w.heap.size, 1, none⟩ = some (.slice A1 acc.length c1) := hx.out.sat _ _ _ (Bd.out 1 _ rfl)
              have cd2 : wr.cell? ⟨w.heap.size, 2, none⟩ = some (.slice (some ⟨b2, off2, none⟩) n c2) := hx.out.sat _ _ _ (Bd.out 2 _ rfl)
              go_wp2_with fail
              clear lqz cz0 fz0 cz1 fz1 cz2 fz2 cz3 fz3 cz4 fz4 cz5 fz5 lqt ct0 ft0 ct1 ft1 ct2 ft2 ct3 ft3 ct4 ft4 ct5 ft5 lqd cd0 cd1 cd2
              go_roundw
              case rel => exact ⟨t, _, by omega, rfl, hfr2, hx, h2, hacc, Bd, kz, nz, kt, nt, hob, hsl⟩
              case measure => (first | (simp [lenS]; done) | (simp [lenS]; omega))
      case rest =>
        clear hx h2 hacc Bd kz nz kt nt hob hsl
        obtain ⟨m, Hn, hm, rfl, hfree, hlast, hx, h2, hacc, Bd, kz, nz, kt, nt, hob, hsl⟩ := hcut
        have htr := trim_pack (next := next) (cols := C) hform.out hrel.out.2.1 hm hfree.out hlast.out
        have hlbf := hrel.out.1
        clear hfree hlast
        have htl : (L.take m).length = m := by simp; omega
        have hm3 : m ≤ 3200 := by omega
        obtain ⟨Ls, hLs⟩ : ∃ Ls, Ls = L.take m := ⟨_, rfl⟩
        rw [← hLs] at hsl htr htl
        have hsl2 : Own kP 33 wc M Hn (.slice As Ls.length cs) Ls := by rw [htl]; exact hsl.out
        replace hsl := Aside.mk hsl2
        clear hsl2
        rw [← htl]
        rw [← htl] at hm3
        clear hLs htl hm
        have ap_ba_sl := Aside.mk (hsl.out.apart_lo (n := n) (c := n) hM2)
        obtain ⟨H1, hx2, hle, ⟨As_, cs_, e1, hS⟩, hold⟩ := hsl.out.freezeE hx.out (by omega) (by omega)
        cases e1
        replace h2 := Aside.mk (h2.out.mono hle)
        replace hacc := Aside.mk (hacc.out.mono hle)
        replace Bd := Aside.mk (Bd.out.mono hle)
        replace nz := Aside.mk (fun o => (hold _ o (fun e => by have h1 := (hsl.out.blk e).1; omega)).trans (nz.out o))
        replace nt := Aside.mk (fun o => (hold _ o (fun e => by have h1 := (hsl.out.blk e).1; omega)).trans (nt.out o))
        replace hob := Aside.mk (hob.out.keep hle fun bb hb => ⟨rfl, fun o => (hold bb o (fun e => ap_ba_sl.out.elim (fun h => by rw [h] at hb; cases hb) (fun h => h (hb.trans e.symm)))).trans ((hob.out.blk hb).2.2 o)⟩)
        replace hx := Aside.mk hx2
        replace hS := Aside.mk hS
        clear hle hold hx2
        clear ap_ba_sl hrel
        replace htr := Aside.mk htr
        replace hlbf := Aside.mk hlbf
        have lqz : w.heap.size + 1 < wc.heap.size := boxL kz.out
        have cz0 : wc.cell? ⟨w.heap.size + 1, 0, none⟩ = some (.int .i64 0) := (boxC kz.out 0).1
        have fz0 : wc.frozen? ⟨w.heap.size + 1, 0, none⟩ = false := (boxC kz.out 0).2
        have cz1 : wc.cell? ⟨w.heap.size + 1, 1, none⟩ = some (.int .i64 0) := (boxC kz.out 1).1
        have fz1 : wc.frozen? ⟨w.heap.size + 1, 1, none⟩ = false := (boxC kz.out 1).2
        have cz2 : wc.cell? ⟨w.heap.size + 1, 2, none⟩ = some (.slice none 0 0) := (boxC kz.out 2).1
        have fz2 : wc.frozen? ⟨w.heap.size + 1, 2, none⟩ = false := (boxC kz.out 2).2
        have cz3 : wc.cell? ⟨w.heap.size + 1, 3, none⟩ = some (.slice none 0 0) := (boxC kz.out 3).1
        have fz3 : wc.frozen? ⟨w.heap.size + 1, 3, none⟩ = false := (boxC kz.out 3).2
        have cz4 : wc.cell? ⟨w.heap.size + 1, 4, none⟩ = some (.slice none 0 0) := (boxC kz.out 4).1
        have fz4 : wc.frozen? ⟨w.heap.size + 1, 4, none⟩ = false := (boxC kz.out 4).2
        have cz5 : wc.cell? ⟨w.heap.size + 1, 5, none⟩ = some (.slice none 0 0) := (boxC kz.out 5).1
        have fz5 : wc.frozen? ⟨w.heap.size + 1, 5, none⟩ = false := (boxC kz.out 5).2
        have lqt : tb < wc.heap.size := boxL kt.out
        have ct0 : wc.cell? ⟨tb, 0, none⟩ = some (.int .i64 st) := (boxC kt.out 0).1
        have ft0 : wc.frozen? ⟨tb, 0, none⟩ = false := (boxC kt.out 0).2
        have ct1 : wc.cell? ⟨tb, 1, none⟩ = some (.int .i64 C) := (boxC kt.out 1).1
        have ft1 : wc.frozen? ⟨tb, 1, none⟩ = false := (boxC kt.out 1).2
        have ct2 : wc.cell? ⟨tb, 2, none⟩ = some (.slice Aa acc.length ca) := (boxC kt.out 2).1
        have ft2 : wc.frozen? ⟨tb, 2, none⟩ = false := (boxC kt.out 2).2
        have ct3 : wc.cell? ⟨tb, 3, none⟩ = some (.slice (some ⟨gb, 0, none⟩) n n) := (boxC kt.out 3).1
        have ft3 : wc.frozen? ⟨tb, 3, none⟩ = false := (boxC kt.out 3).2
        have ct4 : wc.cell? ⟨tb, 4, none⟩ = some (.slice none 0 0) := (boxC kt.out 4).1
        have ft4 : wc.frozen? ⟨tb, 4, none⟩ = false := (boxC kt.out 4).2
        have ct5 : wc.cell? ⟨tb, 5, none⟩ = some (.slice none 0 0) := (boxC kt.out 5).1
        have ft5 : wc.frozen? ⟨tb, 5, none⟩ = false := (boxC kt.out 5).2
        have lqd : w.heap.size < wc.heap.size := hx.out.sat.lt (Bd.out 0 _ rfl)
        have cd0 : wc.cell? ⟨w.heap.size, 0, none⟩ = some (.int .i64 st) := hx.out.sat _ _ _ (Bd.out 0 _ rfl)
        have cd1 : wc.cell? ⟨w.heap.size, 1, none⟩ = some (.slice A1 acc.length c1) := hx.out.sat _ _ _ (Bd.out 1 _ rfl)
        have cd2 : wc.cell? ⟨w.heap.size, 2, none⟩ = some (.slice (some ⟨b2, off2, none⟩) n c2) := hx.out.sat _ _ _ (Bd.out 2 _ rfl)
        go_wp2_with fail
        clear lqz cz0 fz0 cz1 fz1 cz2 fz2 cz3 fz3 cz4 fz4 cz5 fz5 lqt ct0 ft0 ct1 ft1 ct2 ft2 ct3 ft3 ct4 ft4 ct5 ft5 lqd cd0 cd1 cd2
        replace hob := Aside.mk (hob.out.rebase (base' := w.heap.size) (by omega))
        have hlsn := fsts_len Ls
        have hlsm := snds_len Ls
        go_loopw [128] (fun s128 wr => ∃ (k : Nat) (Au : Option Addr) (nu cu : Nat) (Av : Option Addr) (nv cv : Nat) (Hq : PH), k ≤ Ls.length ∧ s128 = .int .i64 k ∧ Aside (Apart (.slice Au nu cu) (.slice Av nv cv)) ∧ Aside (Ext H Hq w wr) ∧ Aside (SlR (kS (kI .i64)) Hq (some ⟨b2, off2, none⟩) n c2 next) ∧ Aside (SlR (kI .i64) Hq Aa acc.length ca acc) ∧ Aside (SlR kP Hq As Ls.length cs Ls) ∧ Aside (BoxH Hq (w.heap.size) [.int .i64 st, .slice A1 acc.length c1, .slice (some ⟨b2, off2, none⟩) n c2]) ∧ Aside (wr.heap[w.heap.size + 1]? = some (.cells #[.int .i64 0, .int .i64 0, .slice none 0 0, .slice none 0 0, .slice none 0 0, .slice none 0 0] 85)) ∧ Aside (∀ o, Hq (w.heap.size + 1) o = none) ∧ Aside (wr.heap[tb]? = some (.cells #[.int .i64 st, .int .i64 C, .slice Aa acc.length ca, .slice (some ⟨gb, 0, none⟩) n n, .slice Au nu cu, .slice Av nv cv] 85)) ∧ Aside (∀ o, Hq (tb) o = none) ∧ Aside (Own (kI .i64) 3 wr (w.heap.size) Hq (.slice (some ⟨gb, 0, none⟩) n n) (lb)) ∧ Aside (Own (kI .i64) 3 wr (M) Hq (.slice Au nu cu) ((fsts Ls).take k)) ∧ Aside (Own (kI .i64) 3 wr (M) Hq (.slice Av nv cv) ((snds Ls).take k))) (fun s128 _ => Ls.length - (intOf s128).toNat)
        case atStart => exact ⟨0, none, 0, 0, none, 0, 0, _, by omega, rfl, ⟨Or.inl rfl⟩, hx, h2, hacc, hS, Bd, kz, nz, kt, nt, ⟨by simpa using hob.out⟩, ⟨by simpa using Own.nil _ _ _ _ _⟩, ⟨by simpa using Own.nil _ _ _ _ _⟩⟩
        case round =>
          clear hx h2 hacc hS Bd kz nz kt nt hob
          obtain ⟨k, Au, nu, cu, Av, nv, cv, Hq, hk, rfl, ap_u_v, hx, h2, hacc, hS, Bd, kz, nz, kt, nt, hob, hu, hv⟩ := hrel
          by_cases hlk : k < Ls.length
          case pos =>
            have hlki : (k : Int) < (Ls.length : Int) := by omega
            obtain ⟨b6, o6, eA, g0, g1⟩ := cellP hS.out hx.out.sat k hlk
            subst eA
            have hu2 := Aside.mk (show (fsts Ls).take (k + 1) = (fsts Ls).take k ++ [gm (fsts Ls) k] by rw [List.take_succ_eq_append_getElem (by rw [fsts_len]; exact hlk), gm_in (by rw [fsts_len]; exact hlk)])
            have hv2 := Aside.mk (show (snds Ls).take (k + 1) = (snds Ls).take k ++ [gm (snds Ls) k] by rw [List.take_succ_eq_append_getElem (by rw [snds_len]; exact hlk), gm_in (by rw [snds_len]; exact hlk)])
            have hul : ((fsts Ls).take k).length ≤ 4000 := by simp; omega
            have hvl : ((snds Ls).take k).length ≤ 4000 := by simp; omega
            generalize gm (fsts Ls) k = x at *
            generalize gm (snds Ls) k = y at *
            generalize (fsts Ls).take k = lu at *
            generalize (snds Ls).take k = lv at *
            replace hul := Aside.mk hul
            replace hvl := Aside.mk hvl
            have hsz := hx.out.size
            have lqz : w.heap.size + 1 < wr.heap.size := boxL kz.out
            have cz0 : wr.cell? ⟨w.heap.size + 1, 0, none⟩ = some (.int .i64 0) := (boxC kz.out 0).1
            have fz0 : wr.frozen? ⟨w.heap.size + 1, 0, none⟩ = false := (boxC kz.out 0).2
            have cz1 : wr.cell? ⟨w.heap.size + 1, 1, none⟩ = some (.int .i64 0) := (boxC kz.out 1).1
            have fz1 : wr.frozen? ⟨w.heap.size + 1, 1, none⟩ = false := (boxC kz.out 1).2
            have cz2 : wr.cell? ⟨w.heap.size + 1, 2, none⟩ = some (.slice none 0 0) := (boxC kz.out 2).1
            have fz2 : wr.frozen? ⟨w.heap.size + 1, 2, none⟩ = false := (boxC kz.out 2).2
            have cz3 : wr.cell? ⟨w.heap.size + 1, 3, none⟩ = some (.slice none 0 0) := (boxC kz.out 3).1
            have fz3 : wr.frozen? ⟨w.heap.size + 1, 3, none⟩ = false := (boxC kz.out 3).2
            have cz4 : wr.cell? ⟨w.heap.size + 1, 4, none⟩ = some (.slice none 0 0) := (boxC kz.out 4).1
            have fz4 : wr.frozen? ⟨w.heap.size + 1, 4, none⟩ = false := (boxC kz.out 4).2
            have cz5 : wr.cell? ⟨w.heap.size + 1, 5, none⟩ = some (.slice none 0 0) := (boxC kz.out 5).1
            have fz5 : wr.frozen? ⟨w.heap.size + 1, 5, none⟩ = false := (boxC kz.out 5).2
            have lqt : tb < wr.heap.size := boxL kt.out
            have ct0 : wr.cell? ⟨tb, 0, none⟩ = some (.int .i64 st) := (boxC kt.out 0).1
            have ft0 : wr.frozen? ⟨tb, 0, none⟩ = false := (boxC kt.out 0).2
            have ct1 : wr.cell? ⟨tb, 1, none⟩ = some (.int .i64 C) := (boxC kt.out 1).1
            have ft1 : wr.frozen? ⟨tb, 1, none⟩ = false := (boxC kt.out 1).2
            have ct2 : wr.cell? ⟨tb, 2, none⟩ = some (.slice Aa acc.length ca) := (boxC kt.out 2).1
            have ft2 : wr.frozen? ⟨tb, 2, none⟩ = false := (boxC kt.out 2).2
            have ct3 : wr.cell? ⟨tb, 3, none⟩ = some (.slice (some ⟨gb, 0, none⟩) n n) := (boxC kt.out 3).1
            have ft3 : wr.frozen? ⟨tb, 3, none⟩ = false := (boxC kt.out 3).2
            have ct4 : wr.cell? ⟨tb, 4, none⟩ = some (.slice Au nu cu) := (boxC kt.out 4).1
            have ft4 : wr.frozen? ⟨tb, 4, none⟩ = false := (boxC kt.out 4).2
            have ct5 : wr.cell? ⟨tb, 5, none⟩ = some (.slice Av nv cv) := (boxC kt.out 5).1
            have ft5 : wr.frozen? ⟨tb, 5, none⟩ = false := (boxC kt.out 5).2
            have lqd : w.heap.size < wr.heap.size := hx.out.sat.lt (Bd.out 0 _ rfl)
            have cd0 : wr.cell? ⟨w.heap.size, 0, none⟩ = some (.int .i64 st) := hx.out.sat _ _ _ (Bd.out 0 _ rfl)
            have cd1 : wr.cell? ⟨w.heap.size, 1, none⟩ = some (.slice A1 acc.length c1) := hx.out.sat _ _ _ (Bd.out 1 _ rfl)
            have cd2 : wr.cell? ⟨w.heap.size, 2, none⟩ = some (.slice (some ⟨b2, off2, none⟩) n c2) := hx.out.sat _ _ _ (Bd.out 2 _ rfl)
            go_upto_region 36 with (fail)
            clear lqz cz0 fz0 cz1 fz1 cz2 fz2 cz3 fz3 cz4 fz4 cz5 fz5 lqt ct0 ft0 ct1 ft1 ct2 ft2 ct3 ft3 ct4 ft4 ct5 ft5 lqd cd0 cd1 cd2
            clear g0 g1
            have hszwr := hx.out.size
            have habzwr := boxL kz.out
            have habtwr := boxL kt.out
            have nq_ba_e := Aside.mk (fun bb (hb : (.slice (some ⟨gb, 0, none⟩) n n : Value).ownBlock = some bb) => (show bb ≠ wr.heap.size from by have h1 := (hob.out.blk hb).2.1; omega))
            have nq_u_e := Aside.mk (fun bb (hb : (.slice Au nu cu : Value).ownBlock = some bb) => (show bb ≠ wr.heap.size from by have h1 := (hu.out.blk hb).2.1; omega))
            have nq_v_e := Aside.mk (fun bb (hb : (.slice Av nv cv : Value).ownBlock = some bb) => (show bb ≠ wr.heap.size from by have h1 := (hv.out.blk hb).2.1; omega))
            have kz_ : (wr.alloc (.cells #[.int .i64 x, .int .i64 y] 33)).heap[w.heap.size + 1]? = some (.cells #[.int .i64 0, .int .i64 0, .slice none 0 0, .slice none 0 0, .slice none 0 0, .slice none 0 0] 85) := (boxA kz.out (.cells #[.int .i64 x, .int .i64 y] 33))
            have kt_ : (wr.alloc (.cells #[.int .i64 x, .int .i64 y] 33)).heap[tb]? = some (.cells #[.int .i64 st, .int .i64 C, .slice Aa acc.length ca, .slice (some ⟨gb, 0, none⟩) n n, .slice Au nu cu, .slice Av nv cv] 85) := (boxA kt.out (.cells #[.int .i64 x, .int .i64 y] 33))
            have ke_ : (wr.alloc (.cells #[.int .i64 x, .int .i64 y] 33)).heap[wr.heap.size]? = some (.cells #[.int .i64 x, .int .i64 y] 33) := (heap_alloc_new _ _)
            have ne := Aside.mk (fun o => hx.out.sat.new (b := wr.heap.size) (show wr.heap.size ≤ _ by omega) o)
            replace hob := Aside.mk (hob.out.alloc (hx.out).sat (.cells #[.int .i64 x, .int .i64 y] 33))
            replace hu := Aside.mk (hu.out.alloc (hx.out).sat (.cells #[.int .i64 x, .int .i64 y] 33))
            replace hv := Aside.mk (hv.out.alloc (hx.out).sat (.cells #[.int .i64 x, .int .i64 y] 33))
            replace hx := Aside.mk ((hx.out.alloc (.cells #[.int .i64 x, .int .i64 y] 33)))
            generalize (wr.alloc (.cells #[.int .i64 x, .int .i64 y] 33)) = W5 at *
            replace kz := Aside.mk kz_
            clear kz_
            replace kt := Aside.mk kt_
            clear kt_
            have ke := Aside.mk ke_
            clear ke_
            have ap_v_u := Aside.mk ap_u_v.out.symm
            obtain ⟨H1, hx2, hle, Be, hold⟩ := box_freeze hx.out (by omega) ke.out ne.out
            replace h2 := Aside.mk (h2.out.mono hle)
            replace hacc := Aside.mk (hacc.out.mono hle)
            replace hS := Aside.mk (hS.out.mono hle)
            replace Bd := Aside.mk (Bd.out.mono hle)
            replace nz := Aside.mk (fun o => (hold _ o (by omega)).trans (nz.out o))
            replace nt := Aside.mk (fun o => (hold _ o (by omega)).trans (nt.out o))
            replace hob := Aside.mk (hob.out.keep hle fun bb hb => ⟨rfl, fun o => (hold bb o (nq_ba_e.out bb hb)).trans ((hob.out.blk hb).2.2 o)⟩)
            replace hu := Aside.mk (hu.out.keep hle fun bb hb => ⟨rfl, fun o => (hold bb o (nq_u_e.out bb hb)).trans ((hu.out.blk hb).2.2 o)⟩)
            replace hv := Aside.mk (hv.out.keep hle fun bb hb => ⟨rfl, fun o => (hold bb o (nq_v_e.out bb hb)).trans ((hv.out.blk hb).2.2 o)⟩)
            replace hx := Aside.mk hx2
            replace Be := Aside.mk Be
            clear hle hold hx2 ke ne
            clear hsz
            have hbu := boxL kt.out
            have hgz := (hob.out.blk (b := gb) rfl).2.1
            have P0 := Aside.mk (show I36 H w tb (w.heap.size + 1) gb M (.int .i64 st) (.int .i64 C) (.slice Aa acc.length ca) (.slice (some ⟨gb, 0, none⟩) n n) (.cells #[.int .i64 0, .int .i64 0, .slice none 0 0, .slice none 0 0, .slice none 0 0, .slice none 0 0] 85) n lb (.slice Au nu cu) (.slice Av nv cv) lu lv x y (fun _ => none) H1 W5.drew from I36.start (PS.drew ⟨hx.out, kt.out, kz.out, nt.out, nz.out, hob.out, hu.out, hv.out, ap_u_v.out, hM1, hM2, by omega, by omega, hM3⟩))
            refine region_I (fun g H9 w9 => I36 H w tb (w.heap.size + 1) gb M (.int .i64 st) (.int .i64 C) (.slice Aa acc.length ca) (.slice (some ⟨gb, 0, none⟩) n n) (.cells #[.int .i64 0, .int .i64 0, .slice none 0 0, .slice none 0 0, .slice none 0 0, .slice none 0 0] 85) n lb (.slice Au nu cu) (.slice Av nv cv) lu lv x y g H9 w9 ∧ H1.le H9) [5, 11, 13] 14 [132, 133, 134, 135, 136, 137, 138, 139, 140, 141, 142, 143, 144] (by kernel_rfl) (by kernel_rfl) (by kernel_rfl) (by kernel_rfl) ⟨P0.out, PH.le_refl _⟩ ?_
            refine regI_val (d := 132) (v := ?_) rfl rfl (Or.inl rfl) (fun ρ g wρ Hρ hρ => ?_) ?_; rotate_left
            · have k_c := hρ.const; have k_5 : ρ (.tmp 5) = .pointer (some ⟨tb, 0, none⟩) := hρ.old 5 (by kernel_rfl); (go_simp <;> with_reducible rfl)
            refine regI_val (d := 133) (v := ?_) rfl rfl (Or.inl rfl) (fun ρ g wρ Hρ hρ => ?_) ?_; rotate_left
            · have k_c := hρ.const; have k_132 : ρ (.tmp 132) = _ := hρ.dep 132 (by kernel_rfl); have p := hρ.inv.1.owner (hρ.undone 13 (by kernel_rfl)); (go_simp <;> with_reducible rfl)
            refine regI_val (d := 134) (v := ?_) rfl rfl (Or.inl rfl) (fun ρ g wρ Hρ hρ => ?_) ?_; rotate_left
            · have k_c := hρ.const; have k_17 : ρ (.tmp 17) = .pointer (some ⟨wr.heap.size, 0, none⟩) := hρ.old 17 (by kernel_rfl); (go_simp <;> with_reducible rfl)
            refine regI_val (d := 135) (v := ?_) rfl rfl (Or.inl rfl) (fun ρ g wρ Hρ hρ => ?_) ?_; rotate_left
            · have k_c := hρ.const; have k_134 : ρ (.tmp 134) = _ := hρ.dep 134 (by kernel_rfl); have p := hρ.inv.1.sat _ _ _ (Be.out.mono hρ.inv.2 0 _ rfl); (go_simp <;> with_reducible rfl)
            refine regI_runU (d := 136) (.any (fun H u => ∃ b, u = .slice (some ⟨b, 0, none⟩) 1 1 ∧ H b 0 = some (.int .i64 x)) (fun H H2 v hh ⟨b, e, h⟩ => ⟨b, e, hh _ _ _ h⟩)) rfl rfl (Or.inl rfl) (fun ρ g wρ Hρ hρ => ?_) ?_
            · have k_c := hρ.const; have k_135 : ρ (.tmp 135) = _ := hρ.dep 135 (by kernel_rfl); obtain ⟨H9, hx9, hb9⟩ := lit1 (T := 3) (z := x) hρ.inv.1.sat; exact ⟨_, _, H9, (by go_simp <;> rfl), hx9.le, ⟨hρ.inv.1.ext hx9, PH.le_trans hρ.inv.2 hx9.le⟩, _, rfl, hb9⟩
            refine regI_mark (d := 137) (.any (fun _ _ => True) (fun _ _ _ _ h => h)) rfl rfl (Or.inl rfl) (fun a_ g wρ Hρ hρ => ?_) ?_
            · have k_c := hρ.const; have k_133 : a_.eval (.tmp 133) = _ := hρ.dep 133 (by kernel_rfl); obtain ⟨b136, k_136, h136⟩ := hρ.dep 136 (by kernel_rfl); have e5 : g 5 = none := hρ.here; have e13 : g 13 = none := hρ.undone 13 (by kernel_rfl); have hI := hρ.inv.1.pre5 e5 e13; refine wp_appG (.tmp 133) (.tmp 136) 26 rfl 3 Try.underlying26 infoQ hI.hu hI.hx.sat k_133 k_136 (hI.hx.sat _ _ _ h136) hul.out hI.lo ?_; intro v9 w9 ho9 hg9 hs9 hn9; exact ⟨_, _, rfl, PH.le_refl _, ⟨hρ.inv.1.step5 e5 e13 ho9 hg9 hn9, hρ.inv.2⟩, trivial⟩
            refine regI_val (d := 138) (v := ?_) rfl rfl (Or.inl rfl) (fun ρ g wρ Hρ hρ => ?_) ?_; rotate_left
            · have k_c := hρ.const; have k_5 : ρ (.tmp 5) = .pointer (some ⟨tb, 0, none⟩) := hρ.old 5 (by kernel_rfl); (go_simp <;> with_reducible rfl)
            refine regI_val (d := 139) (v := ?_) rfl rfl (Or.inl rfl) (fun ρ g wρ Hρ hρ => ?_) ?_; rotate_left
            · have k_c := hρ.const; have k_138 : ρ (.tmp 138) = _ := hρ.dep 138 (by kernel_rfl); have p := hρ.inv.1.nextc; (go_simp <;> with_reducible rfl)
            refine regI_val (d := 140) (v := ?_) rfl rfl (Or.inl rfl) (fun ρ g wρ Hρ hρ => ?_) ?_; rotate_left
            · have k_c := hρ.const; have k_17 : ρ (.tmp 17) = .pointer (some ⟨wr.heap.size, 0, none⟩) := hρ.old 17 (by kernel_rfl); (go_simp <;> with_reducible rfl)
            refine regI_val (d := 141) (v := ?_) rfl rfl (Or.inl rfl) (fun ρ g wρ Hρ hρ => ?_) ?_; rotate_left
            · have k_c := hρ.const; have k_140 : ρ (.tmp 140) = _ := hρ.dep 140 (by kernel_rfl); have p := hρ.inv.1.sat _ _ _ (Be.out.mono hρ.inv.2 1 _ rfl); (go_simp <;> with_reducible rfl)
            refine regI_runU (d := 142) (.any (fun H u => ∃ b, u = .slice (some ⟨b, 0, none⟩) 1 1 ∧ H b 0 = some (.int .i64 y)) (fun H H2 v hh ⟨b, e, h⟩ => ⟨b, e, hh _ _ _ h⟩)) rfl rfl (Or.inl rfl) (fun ρ g wρ Hρ hρ => ?_) ?_
            · have k_c := hρ.const; have k_141 : ρ (.tmp 141) = _ := hρ.dep 141 (by kernel_rfl); obtain ⟨H9, hx9, hb9⟩ := lit1 (T := 3) (z := y) hρ.inv.1.sat; exact ⟨_, _, H9, (by go_simp <;> rfl), hx9.le, ⟨hρ.inv.1.ext hx9, PH.le_trans hρ.inv.2 hx9.le⟩, _, rfl, hb9⟩
            refine regI_mark (d := 143) (.any (fun _ _ => True) (fun _ _ _ _ h => h)) rfl rfl (Or.inl rfl) (fun a_ g wρ Hρ hρ => ?_) ?_
            · have k_c := hρ.const; have k_139 : a_.eval (.tmp 139) = _ := hρ.dep 139 (by kernel_rfl); obtain ⟨b142, k_142, h142⟩ := hρ.dep 142 (by kernel_rfl); have e11 : g 11 = none := hρ.here; have hI := hρ.inv.1.pre11 e11; refine wp_appG (.tmp 139) (.tmp 142) 26 rfl 3 Try.underlying26 infoQ hI.hv hI.hx.sat k_139 k_142 (hI.hx.sat _ _ _ h142) hvl.out hI.lo ?_; intro v9 w9 ho9 hg9 hs9 hn9; exact ⟨_, _, rfl, PH.le_refl _, ⟨hρ.inv.1.step11 e11 ho9 hg9 hn9, hρ.inv.2⟩, trivial⟩
            refine regI_val (d := 144) (v := ?_) rfl rfl (Or.inl rfl) (fun ρ g wρ Hρ hρ => ?_) ?_; rotate_left
            · have k_c := hρ.const; have k_5 : ρ (.tmp 5) = .pointer (some ⟨tb, 0, none⟩) := hρ.old 5 (by kernel_rfl); (go_simp <;> with_reducible rfl)
            refine regI_store rfl rfl (Or.inl rfl) (fun ρ g wρ Hρ hρ => ?_) ?_
            · have k_c := hρ.const; have k_144 : ρ (.tmp 144) = _ := hρ.dep 144 (by kernel_rfl); obtain ⟨v5, g5, e5⟩ := hρ.done 5 (by kernel_rfl) rfl; have k_137 := e5 137 (by kernel_rfl); have hI := hρ.inv.1.step13 (u := undef) g5 (by omega) hgt (by omega); have p := hρ.inv.1.owner hρ.here; have pf := (boxC (PS.kt hρ.inv.1) 4).2; obtain ⟨A5, c5, e9, -, -, -, -⟩ := (PS.hu hρ.inv.1).form; rw [g5] at e9; simp only [Option.getD_some, Option.isSome_some, if_true] at e9; subst e9; exact ⟨_, Hρ, (by go_simp <;> rfl), PH.le_refl _, ⟨hI, hρ.inv.2⟩⟩
            intro vs wv Hv gv hv F G
            obtain ⟨v5, g5, e5⟩ := G 5 (by decide) rfl
            obtain ⟨v11, g11, e11⟩ := G 11 (by decide) rfl
            obtain ⟨v13, g13, -⟩ := G 13 (by decide) rfl
            have k_143 := e11 143 (by kernel_rfl)
            have hP := hv.1.fin g5 g11 g13
            have hle9 := hv.2
            clear g5 g11 g13 e5 e11 F G hv P0
            clear Be
            replace h2 := Aside.mk (h2.out.mono hle9)
            replace hacc := Aside.mk (hacc.out.mono hle9)
            replace hS := Aside.mk (hS.out.mono hle9)
            replace Bd := Aside.mk (Bd.out.mono hle9)
            obtain ⟨A5, c5, e9, -, -, -, -⟩ := hP.hu.form
            subst e9
            obtain ⟨A11, c11, e9, -, -, -, -⟩ := hP.hv.form
            subst e9
            clear hx kt kz nt nz hob hu ap_u_v ap_v_u hle9 hbu hgz
            have hx := Aside.mk hP.hx
            have kt := Aside.mk hP.kt
            have kz := Aside.mk hP.kz
            have nt := Aside.mk hP.nt
            have nz := Aside.mk hP.nz
            have hob := Aside.mk hP.hob
            have hu := Aside.mk hP.hu
            have hv := Aside.mk hP.hv
            have ap_u_v := Aside.mk hP.ap
            clear hP
            simp only [setAll, List.setIfInBounds_toArray, List.set_cons_zero, List.set_cons_succ, k_143, List.drop_succ_cons, List.drop_zero]
            generalize hn5 : (lu ++ [x]).length = n5 at *
            generalize hn11 : (lv ++ [y]).length = n11 at *
            clear hn5 hn11
            have hsz := hx.out.size
            have lqz : w.heap.size + 1 < wv.heap.size := boxL kz.out
            have cz0 : wv.cell? ⟨w.heap.size + 1, 0, none⟩ = some (.int .i64 0) := (boxC kz.out 0).1
            have fz0 : wv.frozen? ⟨w.heap.size + 1, 0, none⟩ = false := (boxC kz.out 0).2
            have cz1 : wv.cell? ⟨w.heap.size + 1, 1, none⟩ = some (.int .i64 0) := (boxC kz.out 1).1
            have fz1 : wv.frozen? ⟨w.heap.size + 1, 1, none⟩ = false := (boxC kz.out 1).2
            have cz2 : wv.cell? ⟨w.heap.size + 1, 2, none⟩ = some (.slice none 0 0) := (boxC kz.out 2).1
            have fz2 : wv.frozen? ⟨w.heap.size + 1, 2, none⟩ = false := (boxC kz.out 2).2
            have cz3 : wv.cell? ⟨w.heap.size + 1, 3, none⟩ = some (.slice none 0 0) := (boxC kz.out 3).1
            have fz3 : wv.frozen? ⟨w.heap.size + 1, 3, none⟩ = false := (boxC kz.out 3).2
            have cz4 : wv.cell? ⟨w.heap.size + 1, 4, none⟩ = some (.slice none 0 0) := (boxC kz.out 4).1
            have fz4 : wv.frozen? ⟨w.heap.size + 1, 4, none⟩ = false := (boxC kz.out 4).2
            have cz5 : wv.cell? ⟨w.heap.size + 1, 5, none⟩ = some (.slice none 0 0) := (boxC kz.out 5).1
            have fz5 : wv.frozen? ⟨w.heap.size + 1, 5, none⟩ = false := (boxC kz.out 5).2
            have lqt : tb < wv.heap.size := boxL kt.out
            have ct0 : wv.cell? ⟨tb, 0, none⟩ = some (.int .i64 st) := (boxC kt.out 0).1
            have ft0 : wv.frozen? ⟨tb, 0, none⟩ = false := (boxC kt.out 0).2
            have ct1 : wv.cell? ⟨tb, 1, none⟩ = some (.int .i64 C) := (boxC kt.out 1).1
            have ft1 : wv.frozen? ⟨tb, 1, none⟩ = false := (boxC kt.out 1).2
            have ct2 : wv.cell? ⟨tb, 2, none⟩ = some (.slice Aa acc.length ca) := (boxC kt.out 2).1
            have ft2 : wv.frozen? ⟨tb, 2, none⟩ = false := (boxC kt.out 2).2
            have ct3 : wv.cell? ⟨tb, 3, none⟩ = some (.slice (some ⟨gb, 0, none⟩) n n) := (boxC kt.out 3).1
            have ft3 : wv.frozen? ⟨tb, 3, none⟩ = false := (boxC kt.out 3).2
            have ct4 : wv.cell? ⟨tb, 4, none⟩ = some (.slice A5 n5 c5) := (boxC kt.out 4).1
            have ft4 : wv.frozen? ⟨tb, 4, none⟩ = false := (boxC kt.out 4).2
            have ct5 : wv.cell? ⟨tb, 5, none⟩ = some (.slice Av nv cv) := (boxC kt.out 5).1
            have ft5 : wv.frozen? ⟨tb, 5, none⟩ = false := (boxC kt.out 5).2
            have lqd : w.heap.size < wv.heap.size := hx.out.sat.lt (Bd.out 0 _ rfl)
            have cd0 : wv.cell? ⟨w.heap.size, 0, none⟩ = some (.int .i64 st) := hx.out.sat _ _ _ (Bd.out 0 _ rfl)
            have cd1 : wv.cell? ⟨w.heap.size, 1, none⟩ = some (.slice A1 acc.length c1) := hx.out.sat _ _ _ (Bd.out 1 _ rfl)
            have cd2 : wv.cell? ⟨w.heap.size, 2, none⟩ = some (.slice (some ⟨b2, off2, none⟩) n c2) := hx.out.sat _ _ _ (Bd.out 2 _ rfl)
            go_upto_region 37 with (fail)
            clear lqz cz0 fz0 cz1 fz1 cz2 fz2 cz3 fz3 cz4 fz4 cz5 fz5 lqt ct0 ft0 ct1 ft1 ct2 ft2 ct3 ft3 ct4 ft4 ct5 ft5 lqd cd0 cd1 cd2
            have kz_ : (wv.setCell ⟨tb, 5, none⟩ (.slice A11 n11 c11)).heap[w.heap.size + 1]? = some (.cells #[.int .i64 0, .int .i64 0, .slice none 0 0, .slice none 0 0, .slice none 0 0, .slice none 0 0] 85) := (boxS_ne kz.out (by first | omega | (simp; omega)) 5 (.slice A11 n11 c11))
            have kt_ : (wv.setCell ⟨tb, 5, none⟩ (.slice A11 n11 c11)).heap[tb]? = some (.cells #[.int .i64 st, .int .i64 C, .slice Aa acc.length ca, .slice (some ⟨gb, 0, none⟩) n n, .slice A5 n5 c5, .slice A11 n11 c11] 85) := (boxS kt.out 5 (.slice A11 n11 c11))
            replace hob := Aside.mk (hob.out.grown (grownBy_setCell _ (tb) 5 (.slice A11 n11 c11)) (Or.inr (fun e => by first | (have h1 := (hob.out.blk e).1; omega) | (simp [Value.ownBlock] at e; done) | (simp [Value.ownBlock] at e; omega))))
            replace hu := Aside.mk (hu.out.grown (grownBy_setCell _ (tb) 5 (.slice A11 n11 c11)) (Or.inr (fun e => by first | (have h1 := (hu.out.blk e).1; omega) | (simp [Value.ownBlock] at e; done) | (simp [Value.ownBlock] at e; omega))))
            replace hv := Aside.mk (hv.out.grown (grownBy_setCell _ (tb) 5 (.slice A11 n11 c11)) (Or.inr (fun e => by first | (have h1 := (hv.out.blk e).1; omega) | (simp [Value.ownBlock] at e; done) | (simp [Value.ownBlock] at e; omega))))
            replace hx := Aside.mk ((hx.out.setCell (b := tb) (o := 5) (by first | omega | (simp; omega)) nt.out (.slice A11 n11 c11)))
            generalize (wv.setCell ⟨tb, 5, none⟩ (.slice A11 n11 c11)) = W6 at *
            replace kz := Aside.mk kz_
            clear kz_
            replace kt := Aside.mk kt_
            clear kt_
            have lqz : w.heap.size + 1 < W6.heap.size := boxL kz.out
            have cz0 : W6.cell? ⟨w.heap.size + 1, 0, none⟩ = some (.int .i64 0) := (boxC kz.out 0).1
            have fz0 : W6.frozen? ⟨w.heap.size + 1, 0, none⟩ = false := (boxC kz.out 0).2
            have cz1 : W6.cell? ⟨w.heap.size + 1, 1, none⟩ = some (.int .i64 0) := (boxC kz.out 1).1
            have fz1 : W6.frozen? ⟨w.heap.size + 1, 1, none⟩ = false := (boxC kz.out 1).2
            have cz2 : W6.cell? ⟨w.heap.size + 1, 2, none⟩ = some (.slice none 0 0) := (boxC kz.out 2).1
            have fz2 : W6.frozen? ⟨w.heap.size + 1, 2, none⟩ = false := (boxC kz.out 2).2
            have cz3 : W6.cell? ⟨w.heap.size + 1, 3, none⟩ = some (.slice none 0 0) := (boxC kz.out 3).1
            have fz3 : W6.frozen? ⟨w.heap.size + 1, 3, none⟩ = false := (boxC kz.out 3).2
            have cz4 : W6.cell? ⟨w.heap.size + 1, 4, none⟩ = some (.slice none 0 0) := (boxC kz.out 4).1
            have fz4 : W6.frozen? ⟨w.heap.size + 1, 4, none⟩ = false := (boxC kz.out 4).2
            have cz5 : W6.cell? ⟨w.heap.size + 1, 5, none⟩ = some (.slice none 0 0) := (boxC kz.out 5).1
            have fz5 : W6.frozen? ⟨w.heap.size + 1, 5, none⟩ = false := (boxC kz.out 5).2
            have lqt : tb < W6.heap.size := boxL kt.out
            have ct0 : W6.cell? ⟨tb, 0, none⟩ = some (.int .i64 st) := (boxC kt.out 0).1
            have ft0 : W6.frozen? ⟨tb, 0, none⟩ = false := (boxC kt.out 0).2
            have ct1 : W6.cell? ⟨tb, 1, none⟩ = some (.int .i64 C) := (boxC kt.out 1).1
            have ft1 : W6.frozen? ⟨tb, 1, none⟩ = false := (boxC kt.out 1).2
            have ct2 : W6.cell? ⟨tb, 2, none⟩ = some (.slice Aa acc.length ca) := (boxC kt.out 2).1
            have ft2 : W6.frozen? ⟨tb, 2, none⟩ = false := (boxC kt.out 2).2
            have ct3 : W6.cell? ⟨tb, 3, none⟩ = some (.slice (some ⟨gb, 0, none⟩) n n) := (boxC kt.out 3).1
            have ft3 : W6.frozen? ⟨tb, 3, none⟩ = false := (boxC kt.out 3).2
            have ct4 : W6.cell? ⟨tb, 4, none⟩ = some (.slice A5 n5 c5) := (boxC kt.out 4).1
            have ft4 : W6.frozen? ⟨tb, 4, none⟩ = false := (boxC kt.out 4).2
            have ct5 : W6.cell? ⟨tb, 5, none⟩ = some (.slice A11 n11 c11) := (boxC kt.out 5).1
            have ft5 : W6.frozen? ⟨tb, 5, none⟩ = false := (boxC kt.out 5).2
            have lqd : w.heap.size < W6.heap.size := hx.out.sat.lt (Bd.out 0 _ rfl)
            have cd0 : W6.cell? ⟨w.heap.size, 0, none⟩ = some (.int .i64 st) := hx.out.sat _ _ _ (Bd.out 0 _ rfl)
            have cd1 : W6.cell? ⟨w.heap.size, 1, none⟩ = some (.slice A1 acc.length c1) := hx.out.sat _ _ _ (Bd.out 1 _ rfl)
            have cd2 : W6.cell? ⟨w.heap.size, 2, none⟩ = some (.slice (some ⟨b2, off2, none⟩) n c2) := hx.out.sat _ _ _ (Bd.out 2 _ rfl)
            go_wp2_with fail
            clear lqz cz0 fz0 cz1 fz1 cz2 fz2 cz3 fz3 cz4 fz4 cz5 fz5 lqt ct0 ft0 ct1 ft1 ct2 ft2 ct3 ft3 ct4 ft4 ct5 ft5 lqd cd0 cd1 cd2
            go_roundw
            case rel => exact ⟨k + 1, _, _, _, _, _, _, _, by omega, by go_num, ap_u_v, hx, h2, hacc, hS, Bd, kz, nz, kt, nt, hob, ⟨by rw [hu2.out]; exact hu.out⟩, ⟨by rw [hv2.out]; exact hv.out⟩⟩
            case measure => (first | (simp [intOf]; done) | (simp [intOf]; omega))
          case neg =>
            have hlki : ¬ (k : Int) < (Ls.length : Int) := by omega
            have hsz := hx.out.size
            have lqz : w.heap.size + 1 < wr.heap.size := boxL kz.out
            have cz0 : wr.cell? ⟨w.heap.size + 1, 0, none⟩ = some (.int .i64 0) := (boxC kz.out 0).1
            have fz0 : wr.frozen? ⟨w.heap.size + 1, 0, none⟩ = false := (boxC kz.out 0).2
            have cz1 : wr.cell? ⟨w.heap.size + 1, 1, none⟩ = some (.int .i64 0) := (boxC kz.out 1).1
            have fz1 : wr.frozen? ⟨w.heap.size + 1, 1, none⟩ = false := (boxC kz.out 1).2
            have cz2 : wr.cell? ⟨w.heap.size + 1, 2, none⟩ = some (.slice none 0 0) := (boxC kz.out 2).1
            have fz2 : wr.frozen? ⟨w.heap.size + 1, 2, none⟩ = false := (boxC kz.out 2).2
            have cz3 : wr.cell? ⟨w.heap.size + 1, 3, none⟩ = some (.slice none 0 0) := (boxC kz.out 3).1
            have fz3 : wr.frozen? ⟨w.heap.size + 1, 3, none⟩ = false := (boxC kz.out 3).2
            have cz4 : wr.cell? ⟨w.heap.size + 1, 4, none⟩ = some (.slice none 0 0) := (boxC kz.out 4).1
            have fz4 : wr.frozen? ⟨w.heap.size + 1, 4, none⟩ = false := (boxC kz.out 4).2
            have cz5 : wr.cell? ⟨w.heap.size + 1, 5, none⟩ = some (.slice none 0 0) := (boxC kz.out 5).1
            have fz5 : wr.frozen? ⟨w.heap.size + 1, 5, none⟩ = false := (boxC kz.out 5).2
            have lqt : tb < wr.heap.size := boxL kt.out
            have ct0 : wr.cell? ⟨tb, 0, none⟩ = some (.int .i64 st) := (boxC kt.out 0).1
            have ft0 : wr.frozen? ⟨tb, 0, none⟩ = false := (boxC kt.out 0).2
            have ct1 : wr.cell? ⟨tb, 1, none⟩ = some (.int .i64 C) := (boxC kt.out 1).1
            have ft1 : wr.frozen? ⟨tb, 1, none⟩ = false := (boxC kt.out 1).2
            have ct2 : wr.cell? ⟨tb, 2, none⟩ = some (.slice Aa acc.length ca) := (boxC kt.out 2).1
            have ft2 : wr.frozen? ⟨tb, 2, none⟩ = false := (boxC kt.out 2).2
            have ct3 : wr.cell? ⟨tb, 3, none⟩ = some (.slice (some ⟨gb, 0, none⟩) n n) := (boxC kt.out 3).1
            have ft3 : wr.frozen? ⟨tb, 3, none⟩ = false := (boxC kt.out 3).2
            have ct4 : wr.cell? ⟨tb, 4, none⟩ = some (.slice Au nu cu) := (boxC kt.out 4).1
            have ft4 : wr.frozen? ⟨tb, 4, none⟩ = false := (boxC kt.out 4).2
            have ct5 : wr.cell? ⟨tb, 5, none⟩ = some (.slice Av nv cv) := (boxC kt.out 5).1
            have ft5 : wr.frozen? ⟨tb, 5, none⟩ = false := (boxC kt.out 5).2
            have lqd : w.heap.size < wr.heap.size := hx.out.sat.lt (Bd.out 0 _ rfl)
            have cd0 : wr.cell? ⟨w.heap.size, 0, none⟩ = some (.int .i64 st) := hx.out.sat _ _ _ (Bd.out 0 _ rfl)
            have cd1 : wr.cell? ⟨w.heap.size, 1, none⟩ = some (.slice A1 acc.length c1) := hx.out.sat _ _ _ (Bd.out 1 _ rfl)
            have cd2 : wr.cell? ⟨w.heap.size, 2, none⟩ = some (.slice (some ⟨b2, off2, none⟩) n c2) := hx.out.sat _ _ _ (Bd.out 2 _ rfl)
            go_wp2_with fail
            clear lqz cz0 fz0 cz1 fz1 cz2 fz2 cz3 fz3 cz4 fz4 cz5 fz5 lqt ct0 ft0 ct1 ft1 ct2 ft2 ct3 ft3 ct4 ft4 ct5 ft5 lqd cd0 cd1 cd2
            have kz_ : ((((((wr.setCell ⟨w.heap.size + 1, 0, none⟩ (.int .i64 st)).setCell ⟨w.heap.size + 1, 1, none⟩ (.int .i64 C)).setCell ⟨w.heap.size + 1, 2, none⟩ (.slice Aa acc.length ca)).setCell ⟨w.heap.size + 1, 3, none⟩ (.slice (some ⟨gb, 0, none⟩) n n)).setCell ⟨w.heap.size + 1, 4, none⟩ (.slice Au nu cu)).setCell ⟨w.heap.size + 1, 5, none⟩ (.slice Av nv cv)).heap[w.heap.size + 1]? = some (.cells #[.int .i64 st, .int .i64 C, .slice Aa acc.length ca, .slice (some ⟨gb, 0, none⟩) n n, .slice Au nu cu, .slice Av nv cv] 85) := (boxS (boxS (boxS (boxS (boxS (boxS kz.out 0 (.int .i64 st)) 1 (.int .i64 C)) 2 (.slice Aa acc.length ca)) 3 (.slice (some ⟨gb, 0, none⟩) n n)) 4 (.slice Au nu cu)) 5 (.slice Av nv cv))
            have kt_ : ((((((wr.setCell ⟨w.heap.size + 1, 0, none⟩ (.int .i64 st)).setCell ⟨w.heap.size + 1, 1, none⟩ (.int .i64 C)).setCell ⟨w.heap.size + 1, 2, none⟩ (.slice Aa acc.length ca)).setCell ⟨w.heap.size + 1, 3, none⟩ (.slice (some ⟨gb, 0, none⟩) n n)).setCell ⟨w.heap.size + 1, 4, none⟩ (.slice Au nu cu)).setCell ⟨w.heap.size + 1, 5, none⟩ (.slice Av nv cv)).heap[tb]? = some (.cells #[.int .i64 st, .int .i64 C, .slice Aa acc.length ca, .slice (some ⟨gb, 0, none⟩) n n, .slice Au nu cu, .slice Av nv cv] 85) := (boxS_ne (boxS_ne (boxS_ne (boxS_ne (boxS_ne (boxS_ne kt.out (by first | omega | (simp; omega)) 0 (.int .i64 st)) (by first | omega | (simp; omega)) 1 (.int .i64 C)) (by first | omega | (simp; omega)) 2 (.slice Aa acc.length ca)) (by first | omega | (simp; omega)) 3 (.slice (some ⟨gb, 0, none⟩) n n)) (by first | omega | (simp; omega)) 4 (.slice Au nu cu)) (by first | omega | (simp; omega)) 5 (.slice Av nv cv))
            replace hob := Aside.mk ((((((hob.out.grown (grownBy_setCell _ (w.heap.size + 1) 0 (.int .i64 st)) (Or.inr (fun e => by first | (have h1 := (hob.out.blk e).1; omega) | (simp [Value.ownBlock] at e; done) | (simp [Value.ownBlock] at e; omega)))).grown (grownBy_setCell _ (w.heap.size + 1) 1 (.int .i64 C)) (Or.inr (fun e => by first | (have h1 := (hob.out.blk e).1; omega) | (simp [Value.ownBlock] at e; done) | (simp [Value.ownBlock] at e; omega)))).grown (grownBy_setCell _ (w.heap.size + 1) 2 (.slice Aa acc.length ca)) (Or.inr (fun e => by first | (have h1 := (hob.out.blk e).1; omega) | (simp [Value.ownBlock] at e; done) | (simp [Value.ownBlock] at e; omega)))).grown (grownBy_setCell _ (w.heap.size + 1) 3 (.slice (some ⟨gb, 0, none⟩) n n)) (Or.inr (fun e => by first | (have h1 := (hob.out.blk e).1; omega) | (simp [Value.ownBlock] at e; done) | (simp [Value.ownBlock] at e; omega)))).grown (grownBy_setCell _ (w.heap.size + 1) 4 (.slice Au nu cu)) (Or.inr (fun e => by first | (have h1 := (hob.out.blk e).1; omega) | (simp [Value.ownBlock] at e; done) | (simp [Value.ownBlock] at e; omega)))).grown (grownBy_setCell _ (w.heap.size + 1) 5 (.slice Av nv cv)) (Or.inr (fun e => by first | (have h1 := (hob.out.blk e).1; omega) | (simp [Value.ownBlock] at e; done) | (simp [Value.ownBlock] at e; omega))))
            replace hu := Aside.mk ((((((hu.out.grown (grownBy_setCell _ (w.heap.size + 1) 0 (.int .i64 st)) (Or.inr (fun e => by first | (have h1 := (hu.out.blk e).1; omega) | (simp [Value.ownBlock] at e; done) | (simp [Value.ownBlock] at e; omega)))).grown (grownBy_setCell _ (w.heap.size + 1) 1 (.int .i64 C)) (Or.inr (fun e => by first | (have h1 := (hu.out.blk e).1; omega) | (simp [Value.ownBlock] at e; done) | (simp [Value.ownBlock] at e; omega)))).grown (grownBy_setCell _ (w.heap.size + 1) 2 (.slice Aa acc.length ca)) (Or.inr (fun e => by first | (have h1 := (hu.out.blk e).1; omega) | (simp [Value.ownBlock] at e; done) | (simp [Value.ownBlock] at e; omega)))).grown (grownBy_setCell _ (w.heap.size + 1) 3 (.slice (some ⟨gb, 0, none⟩) n n)) (Or.inr (fun e => by first | (have h1 := (hu.out.blk e).1; omega) | (simp [Value.ownBlock] at e; done) | (simp [Value.ownBlock] at e; omega)))).grown (grownBy_setCell _ (w.heap.size + 1) 4 (.slice Au nu cu)) (Or.inr (fun e => by first | (have h1 := (hu.out.blk e).1; omega) | (simp [Value.ownBlock] at e; done) | (simp [Value.ownBlock] at e; omega)))).grown (grownBy_setCell _ (w.heap.size + 1) 5 (.slice Av nv cv)) (Or.inr (fun e => by first | (have h1 := (hu.out.blk e).1; omega) | (simp [Value.ownBlock] at e; done) | (simp [Value.ownBlock] at e; omega))))
            replace hv := Aside.mk ((((((hv.out.grown (grownBy_setCell _ (w.heap.size + 1) 0 (.int .i64 st)) (Or.inr (fun e => by first | (have h1 := (hv.out.blk e).1; omega) | (simp [Value.ownBlock] at e; done) | (simp [Value.ownBlock] at e; omega)))).grown (grownBy_setCell _ (w.heap.size + 1) 1 (.int .i64 C)) (Or.inr (fun e => by first | (have h1 := (hv.out.blk e).1; omega) | (simp [Value.ownBlock] at e; done) | (simp [Value.ownBlock] at e; omega)))).grown (grownBy_setCell _ (w.heap.size + 1) 2 (.slice Aa acc.length ca)) (Or.inr (fun e => by first | (have h1 := (hv.out.blk e).1; omega) | (simp [Value.ownBlock] at e; done) | (simp [Value.ownBlock] at e; omega)))).grown (grownBy_setCell _ (w.heap.size + 1) 3 (.slice (some ⟨gb, 0, none⟩) n n)) (Or.inr (fun e => by first | (have h1 := (hv.out.blk e).1; omega) | (simp [Value.ownBlock] at e; done) | (simp [Value.ownBlock] at e; omega)))).grown (grownBy_setCell _ (w.heap.size + 1) 4 (.slice Au nu cu)) (Or.inr (fun e => by first | (have h1 := (hv.out.blk e).1; omega) | (simp [Value.ownBlock] at e; done) | (simp [Value.ownBlock] at e; omega)))).grown (grownBy_setCell _ (w.heap.size + 1) 5 (.slice Av nv cv)) (Or.inr (fun e => by first | (have h1 := (hv.out.blk e).1; omega) | (simp [Value.ownBlock] at e; done) | (simp [Value.ownBlock] at e; omega))))
            replace hx := Aside.mk (((((((hx.out.setCell (b := w.heap.size + 1) (o := 0) (by first | omega | (simp; omega)) nz.out (.int .i64 st)).setCell (b := w.heap.size + 1) (o := 1) (by first | omega | (simp; omega)) nz.out (.int .i64 C)).setCell (b := w.heap.size + 1) (o := 2) (by first | omega | (simp; omega)) nz.out (.slice Aa acc.length ca)).setCell (b := w.heap.size + 1) (o := 3) (by first | omega | (simp; omega)) nz.out (.slice (some ⟨gb, 0, none⟩) n n)).setCell (b := w.heap.size + 1) (o := 4) (by first | omega | (simp; omega)) nz.out (.slice Au nu cu)).setCell (b := w.heap.size + 1) (o := 5) (by first | omega | (simp; omega)) nz.out (.slice Av nv cv)))
            generalize ((((((wr.setCell ⟨w.heap.size + 1, 0, none⟩ (.int .i64 st)).setCell ⟨w.heap.size + 1, 1, none⟩ (.int .i64 C)).setCell ⟨w.heap.size + 1, 2, none⟩ (.slice Aa acc.length ca)).setCell ⟨w.heap.size + 1, 3, none⟩ (.slice (some ⟨gb, 0, none⟩) n n)).setCell ⟨w.heap.size + 1, 4, none⟩ (.slice Au nu cu)).setCell ⟨w.heap.size + 1, 5, none⟩ (.slice Av nv cv)) = W7 at *
            replace kz := Aside.mk kz_
            clear kz_
            replace kt := Aside.mk kt_
            clear kt_
            rw [List.take_of_length_le (by omega)] at hu hv
            have ap_ba_u := Aside.mk (hu.out.apart_lo (n := n) (c := n) hM2)
            have ap_ba_v := Aside.mk (hv.out.apart_lo (n := n) (c := n) hM2)
            have ap_v_u := Aside.mk ap_u_v.out.symm
            have ap_u_ba := Aside.mk ap_ba_u.out.symm
            have ap_v_ba := Aside.mk ap_ba_v.out.symm
            have hlbn : lb.length = n := by have := doneL_inv (next := next) (cols := C) (j := C) (s := 0) hform.out (Nat.zero_le _); rw [doneL_zero] at this; rw [hlbf.out, this.base, hn.out]
            have nq_ba_z := Aside.mk (fun bb (hb : (Value.slice (some ⟨gb, 0, none⟩) n n).ownBlock = some bb) => (show bb ≠ w.heap.size + 1 from by have := Option.some.inj hb; simp only at this; omega))
            have nq_ba_t := Aside.mk (fun bb (hb : (Value.slice (some ⟨gb, 0, none⟩) n n).ownBlock = some bb) => (show bb ≠ tb from by have := Option.some.inj hb; simp only at this; omega))
            obtain ⟨H1, hx2, hle, ⟨Ab, cb, e1, hB⟩, hold⟩ := hob.out.freezeE hx.out (by omega) (by omega)
            simp only [List.cons.injEq, Value.slice.injEq, and_true] at e1; obtain ⟨eA, -, ec⟩ := e1; subst eA; subst ec
            replace h2 := Aside.mk (h2.out.mono hle)
            replace hacc := Aside.mk (hacc.out.mono hle)
            replace hS := Aside.mk (hS.out.mono hle)
            replace Bd := Aside.mk (Bd.out.mono hle)
            replace nz := Aside.mk (fun o => (hold _ o (fun e => nq_ba_z.out _ e rfl)).trans (nz.out o))
            replace nt := Aside.mk (fun o => (hold _ o (fun e => nq_ba_t.out _ e rfl)).trans (nt.out o))
            replace hu := Aside.mk (hu.out.keep hle fun bb hb => ⟨rfl, fun o => (hold bb o (fun e => ap_u_ba.out.elim (fun h => by rw [h] at hb; cases hb) (fun h => h (hb.trans e.symm)))).trans ((hu.out.blk hb).2.2 o)⟩)
            replace hv := Aside.mk (hv.out.keep hle fun bb hb => ⟨rfl, fun o => (hold bb o (fun e => ap_v_ba.out.elim (fun h => by rw [h] at hb; cases hb) (fun h => h (hb.trans e.symm)))).trans ((hv.out.blk hb).2.2 o)⟩)
            replace hx := Aside.mk hx2
            replace hB := Aside.mk hB
            clear hle hold hx2
            obtain ⟨H1, hx2, hle, ⟨Au_, cu_, e1, hU⟩, hold⟩ := hu.out.freezeE hx.out (by omega) (by rw [fsts_len]; omega)
            cases e1
            replace h2 := Aside.mk (h2.out.mono hle)
            replace hacc := Aside.mk (hacc.out.mono hle)
            replace hS := Aside.mk (hS.out.mono hle)
            replace hB := Aside.mk (hB.out.mono hle)
            replace Bd := Aside.mk (Bd.out.mono hle)
            replace nz := Aside.mk (fun o => (hold _ o (fun e => by have h1 := (hu.out.blk e).1; omega)).trans (nz.out o))
            replace nt := Aside.mk (fun o => (hold _ o (fun e => by have h1 := (hu.out.blk e).1; omega)).trans (nt.out o))
            replace hv := Aside.mk (hv.out.keep hle fun bb hb => ⟨rfl, fun o => (hold bb o (fun e => ap_v_u.out.elim (fun h => by rw [h] at hb; cases hb) (fun h => h (hb.trans e.symm)))).trans ((hv.out.blk hb).2.2 o)⟩)
            replace hx := Aside.mk hx2
            replace hU := Aside.mk hU
            clear hle hold hx2
            obtain ⟨H1, hx2, hle, ⟨Av_, cv_, e1, hV⟩, hold⟩ := hv.out.freezeE hx.out (by omega) (by rw [snds_len]; omega)
            cases e1
            replace h2 := Aside.mk (h2.out.mono hle)
            replace hacc := Aside.mk (hacc.out.mono hle)
            replace hS := Aside.mk (hS.out.mono hle)
            replace hB := Aside.mk (hB.out.mono hle)
            replace hU := Aside.mk (hU.out.mono hle)
            replace Bd := Aside.mk (Bd.out.mono hle)
            replace nz := Aside.mk (fun o => (hold _ o (fun e => by have h1 := (hv.out.blk e).1; omega)).trans (nz.out o))
            replace nt := Aside.mk (fun o => (hold _ o (fun e => by have h1 := (hv.out.blk e).1; omega)).trans (nt.out o))
            replace hx := Aside.mk hx2
            replace hV := Aside.mk hV
            clear hle hold hx2
            refine bodyPost_ret (resC rfl _ _ _ rfl (run_loadVar_row _ _ _ _ _ (0, 0) _ kz.out Try.underlying85 rfl (by kernel_rfl))) rfl ?_
            have hR : refT st acc next = ⟨st, (C : Int), acc, lb, fsts Ls, snds Ls⟩ := by unfold refT; rw [← hC.out, ← hlbf.out, ← htr.out.1, ← htr.out.2]
            rw [hR]
            exact ⟨_, [.int .i64 st, .int .i64 (C : Int), .slice Aa acc.length ca, .slice (some ⟨gb, 0, none⟩) n n, .slice Au (fsts Ls).length cu, .slice Av (snds Ls).length cv], rfl, ⟨Aa, ca, some ⟨gb, 0, none⟩, n, Au, cu, Av, cv, by dsimp only; rw [hlbn], hacc.out, hB.out, hU.out, hV.out⟩, hx.out⟩
end Go.Proofs.Ytbnahmeaeakhhaa.B
