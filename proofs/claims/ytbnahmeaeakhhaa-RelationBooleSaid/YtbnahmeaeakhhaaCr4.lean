/- Contracts: relation.logic, from those of relation.of at the arguments. -/
import Derived.Test.YtbnahmeaeakhhaaCr3
import Derived.Test.YtbnahmeaeakhhaaC7
namespace Go.Proofs.Ytbnahmeaeakhhaa.B
set_option linter.unusedVariables false
set_option linter.unusedSimpArgs false
open Go Go.RowKit

/-- the contract of relation.of at an expression -/
def OfS (t : List Int) (r : Re) : Prop := ∀ (H : PH) (cs : List Value) (A : Option Addr) (c : Nat) (w : World), RdRe H r cs → SlR (kI .i64) H A t.length c t → Sat w H →
  Calls Try.prog 77 #[.agg cs.toArray, .slice A t.length c] w fun e w' => ∃ v, e = .returned v ∧ Own (kI .u32) 112 w' w.heap.size emp v (rows t.length (M t r)) ∧ Below w.heap.size w w'

/-- one argument of a node of kind RAnd, RNot or RLook -/
def stepL (n : Nat) (kind : Int) (neg : Bool) (R X : Rel) : Rel :=
  if kind = 7 then fun i j => R i j ∧ X i j
  else if kind = 8 then fun i j => R i j ∧ ¬ X i j
  else fun i j => j = i ∧ ((∃ k, k ≤ n ∧ X i k) ↔ neg = false)

theorem foldL7 (n : Nat) (neg : Bool) (Rs : List Rel) (R : Rel) : Rs.foldl (stepL n 7 neg) R = fun i j => R i j ∧ ∀ X ∈ Rs, X i j := by
  induction Rs generalizing R with
  | nil => funext i j; simp
  | cons X Rs ih => rw [List.foldl_cons, ih]; funext i j; simp [stepL, and_assoc]
theorem foldL8 (n : Nat) (neg : Bool) (Rs : List Rel) (R : Rel) : Rs.foldl (stepL n 8 neg) R = fun i j => R i j ∧ ∀ X ∈ Rs, ¬ X i j := by
  induction Rs generalizing R with
  | nil => funext i j; simp
  | cons X Rs ih => rw [List.foldl_cons, ih]; funext i j; simp [stepL, and_assoc]

theorem opM_logic (t : List Int) (kind : Int) (set : List Span) (mn mx : Int) (neg : Bool) (Rs : List Rel) (hk : kind = 7 ∨ kind = 8 ∨ kind = 10) (h1 : kind = 10 → Rs.length = 1) :
    Rs.foldl (stepL t.length kind neg) (fun i j => i ≤ j) = opM t kind set mn mx neg Rs := by
  rcases hk with rfl | rfl | rfl
  · rw [foldL7]; simp [opM]
  · rw [foldL8]; simp [opM]
  · obtain ⟨X, rfl⟩ : ∃ X, Rs = [X] := List.length_eq_one_iff.1 (h1 rfl)
    funext i j
    simp [stepL, opM]
    exact fun _ => ⟨Eq.symm, Eq.symm⟩

theorem u32_or_pow (x k : Nat) (hx : x < 4294967296) (hk : k ≤ 24) : bits .or .u32 (x : Int) (2 ^ k % 4294967296) = ((x ||| 2 ^ k : Nat) : Int) := by
  have h1 : 2 ^ k < 4294967296 := Nat.lt_of_le_of_lt (Nat.pow_le_pow_right (by decide) hk) (by decide)
  have h2 : (2 : Int) ^ k % 4294967296 = ((2 ^ k : Nat) : Int) := by
    have : (2 : Int) ^ k = ((2 ^ k : Nat) : Int) := by simp
    rw [this]; exact Int.emod_eq_of_lt (Int.natCast_nonneg _) (Int.ofNat_lt.2 h1)
  rw [h2]; exact u32_or_nat x (2 ^ k) hx h1

theorem pow_mod (k : Nat) (hk : k ≤ 24) : (2 : Int) ^ k % 4294967296 = ((2 ^ k : Nat) : Int) := by
  have h1 : 2 ^ k < 4294967296 := Nat.lt_of_le_of_lt (Nat.pow_le_pow_right (by decide) hk) (by decide)
  have : (2 : Int) ^ k = ((2 ^ k : Nat) : Int) := by simp
  rw [this]; exact Int.emod_eq_of_lt (Int.natCast_nonneg _) (Int.ofNat_lt.2 h1)

set_option maxRecDepth 100000 in
set_option maxHeartbeats 4000000 in
theorem logic_any (t : List Int) (kind : Int) (set : List Span) (args : List Re) (mn mx : Int) (neg : Bool) (ih : ∀ a ∈ args, OfS t a) (hn : t.length ≤ 24) (hkd : kind = 7 ∨ kind = 8 ∨ kind = 10) (h1 : kind = 10 → args.length = 1)
    (H : PH) (cs : List Value) (A : Option Addr) (c : Nat) (w : World) (hr : RdRe H (.mk kind set args mn mx neg) cs) (ht : SlR (kI .i64) H A t.length c t) (hs : Sat w H) :
    Calls Try.prog 136 #[.agg cs.toArray, .slice A t.length c] w fun e w' => ∃ v, e = .returned v ∧ Own (kI .u32) 112 w' w.heap.size emp v (rows t.length (M t (.mk kind set args mn mx neg))) ∧ Below w.heap.size w w' := by
  rw [M_eq, ← opM_logic t kind set mn mx neg _ hkd (by simpa using h1)]
  obtain ⟨A1, c1, A2, c2, rfl, -, ha⟩ := hr.open
  generalize hnn : t.length = n at *
  have HN := Aside.mk hnn
  clear hnn
  go_enter Try.func136, Try.ntmps136
  go_upto_region 3 with (refine wpList_mk (kI .u32) rfl (.tmp 16) (.tmp 16) 110 rfl 112 Try.underlying110 info112 rfl rfl (0 : Int) (n + 1) (sat_emp _) rfl (by omega) (by unfold maxLen; omega) (base := w.heap.size) (by simp) rfl rfl ?_; intro w1 ho hb1 hz)
  have hz' : w.heap.size + 1 < w1.heap.size := by simp at hz; omega
  have hbw1 : Below w.heap.size w w1 := bT (bA (Below.refl _ _) _) hb1
  have hbox : ∀ i, w1.cell? ⟨w.heap.size, i, none⟩ = (#[.int .i64 kind, .slice A1 set.length c1, .slice A2 args.length c2, .int .i64 mn, .int .i64 mx, .bool neg] : Array Value)[i]? := fun i => cell_box hb1 i
  have HBOX := Aside.mk hbox
  have HB1 := Aside.mk hb1
  clear hbox hz hb1
  go_wp2_with fail
  go_loopw [20] (fun i wr => ∃ (m : Nat) (xs : List Int), m ≤ n + 1 ∧ i = .int .i64 m ∧ Own (kI .u32) 112 wr w.heap.size emp (.slice (some ⟨w.heap.size + 1, 0, none⟩) (n + 1) (n + 1)) xs ∧ Aside (xs = rows n (upto m (fun i j => i ≤ j))) ∧ Aside (∀ i, wr.cell? ⟨w.heap.size, i, none⟩ = w1.cell? ⟨w.heap.size, i, none⟩) ∧ w.heap.size + 1 < wr.heap.size ∧ Below w.heap.size w wr) (fun i _ => n + 1 - (intOf i).toNat)
  case atStart => exact ⟨0, _, by omega, rfl, by simpa using ho, ⟨by rw [← rows_none]; exact rows_congr fun i j _ _ => by simp [upto]⟩, ⟨fun _ => rfl⟩, hz', hbw1⟩
  case round =>
    obtain ⟨m, xs, hm, rfl, ho, hxs, hcb, hsz, hb2⟩ := hrel
    by_cases hmn : m < n + 1
    · have hmi : (m : Int) < (n : Int) + 1 := by omega
      obtain ⟨wo, rfl⟩ : ∃ wo : World, wo = wr := ⟨_, rfl⟩
      go_wp2_with fail
      go_loopw [8] (fun i wr => ∃ (k : Nat) (ys : List Int), m ≤ k ∧ k ≤ n + 1 ∧ i = .int .i64 k ∧ Own (kI .u32) 112 wr w.heap.size emp (.slice (some ⟨w.heap.size + 1, 0, none⟩) (n + 1) (n + 1)) ys ∧ Aside (ys = rows n (fun a b => upto m (fun i j => i ≤ j) a b ∨ (a = m ∧ m ≤ b ∧ b < k))) ∧ Aside (∀ i, wr.cell? ⟨w.heap.size, i, none⟩ = w1.cell? ⟨w.heap.size, i, none⟩) ∧ w.heap.size + 1 < wr.heap.size ∧ Below w.heap.size w wr) (fun i _ => n + 1 - (intOf i).toNat)
      case atStart => exact ⟨m, _, by omega, by omega, rfl, ho, ⟨by rw [hxs.out]; exact rows_congr fun i j _ _ => ⟨Or.inl, fun h => h.elim id (fun ⟨_, h1, h2⟩ => by omega)⟩⟩, hcb, hsz, hb2⟩
      case round =>
        obtain ⟨k, ys, hmk, hk, rfl, ho3, hys, hcb3, hsz3, hb3⟩ := hrel
        have hl : ys.length = n + 1 := by rw [hys.out, rows_length]
        have hf := ho3.free hl.symm m
        by_cases hkn : k ≤ n
        · have hki : (k : Int) ≤ (n : Int) := by omega
          obtain ⟨cs, hrd, hcell⟩ := ho3.at m (by omega)
          have hzm : ys[m] = ((mask n (fun b => m ≤ b ∧ b < k) : Nat) : Int) := by
            simp only [hys.out]
            rw [rows_get]
            exact congrArg (fun x : Nat => (x : Int)) (mask_congr fun j _ => by simp [upto])
          generalize ys[m] = z at *
          obtain rfl : cs = [.int .u32 z] := hrd
          subst hzm
          have g0 := hcell 0 _ rfl
          simp only [kI, Nat.add_zero, Nat.mul_one] at g0
          clear hcell
          have hbit := u32_or_pow (mask n (fun b => m ≤ b ∧ b < k)) k (mask_lt32 _ _ hn) (by omega)
          generalize hx0 : mask n (fun b => m ≤ b ∧ b < k) = x0 at *
          have HX := Aside.mk hx0
          have HL := Aside.mk hl
          clear hx0 hl
          go_upto_region 9 with (fail)
          go_still_tail 8, (by kernel_rfl)
          go_wp2_with fail
          go_roundw
          case rel =>
            have hz : ((x0 ||| 2 ^ k : Nat) : Int) = ((mask n (fun b => m ≤ b ∧ b < k + 1) : Nat) : Int) := by
              rw [← HX.out, ← mask_one n k hkn, mask_or]
              refine congrArg (fun x : Nat => (x : Int)) (mask_congr fun j _ => ?_)
              omega
            obtain ⟨q1, q2⟩ := ho3.put1 HL.out.symm rfl (i := m) (by rw [HL.out]; omega) (y := ((mask n (fun b => m ≤ b ∧ b < k + 1) : Nat) : Int)) (u := .int .u32 ((x0 ||| 2 ^ k : Nat) : Int)) (by rw [hz]; rfl)
            refine ⟨k + 1, _, by omega, by omega, by go_num, q1.drew, ⟨?_⟩, ⟨fun i => ?_⟩, by simpa [World.setCell] using hsz3, (hb3.setCell (by simp) _).drew⟩
            · rw [hys.out]
              have e1 : mask n (fun b => m ≤ b ∧ b < k + 1) = mask n ((fun a b => upto m (fun i j => i ≤ j) a b ∨ (a = m ∧ m ≤ b ∧ b < k + 1)) m) := mask_congr fun j _ => by simp [upto]
              rw [e1]
              refine rows_set n _ (fun a b => upto m (fun i j => i ≤ j) a b ∨ (a = m ∧ m ≤ b ∧ b < k + 1)) m (by omega) fun i j _ _ hne => ?_
              simp [hne]
            · rw [← hcb3.out i]
              exact World.cell?_of_block (Below.heap_setCell _ _ _ _ (by simp))
          case measure => simp [intOf]; omega
        · go_wp2_with fail
          go_roundw
          case rel =>
            refine ⟨m + 1, _, by omega, by go_num, ho3, ⟨?_⟩, hcb3, hsz3, hb3⟩
            rw [hys.out]
            refine rows_congr fun i j hi hj => ?_
            simp only [upto]
            omega
          case measure => simp [intOf]; omega
    · rw [hxs.out, rows_upto n _ m (by omega)] at ho
      have f2 : wr.cell? ⟨w.heap.size, 2, none⟩ = some (.slice A2 args.length c2) := by rw [hcb.out, HBOX.out]; rfl
      have hal := ha.2.2.2.1
      go_wp2_with fail
      go_loopw [41] (fun i wr => ∃ (k : Nat), k ≤ args.length ∧ i = .int .i64 k ∧ Own (kI .u32) 112 wr w.heap.size emp (.slice (some ⟨w.heap.size + 1, 0, none⟩) (n + 1) (n + 1)) (rows n (((args.take k).map (M t)).foldl (stepL n kind neg) (fun i j => i ≤ j))) ∧ Aside (∀ i, wr.cell? ⟨w.heap.size, i, none⟩ = w1.cell? ⟨w.heap.size, i, none⟩) ∧ w.heap.size + 1 < wr.heap.size ∧ Below w.heap.size w wr) (fun i _ => args.length - (intOf i).toNat)
      case atStart => exact ⟨0, by omega, rfl, by simpa using ho, hcb, hsz, hb2⟩
      case round =>
        obtain ⟨k, hk, rfl, ho5, hcb5, hsz5, hb5⟩ := hrel
        generalize hR : (((args.take k).map (M t)).foldl (stepL n kind neg) (fun i j => i ≤ j)) = R at *
        have HR := Aside.mk hR
        clear hR
        by_cases hka : k < args.length
        · obtain ⟨b, off, cs, rfl, hrd, hcell⟩ := ha.row k hka
          have ihk := ih args[k] (List.getElem_mem _)
          have hsn := List.take_succ_eq_append_getElem hka
          generalize args[k] = a at *
          have HS := Aside.mk hsn
          clear hsn
          cases a with
          | mk kind' set' args' mn' mx' neg' =>
          have hrd : RdRe H _ cs := hrd
          obtain ⟨A1', c1', A', c', rfl, -, -⟩ := hrd.open
          have hsr := hs.below hb5
          obtain ⟨g0, g1, g2, g3, g4, g5⟩ := at6 hsr hcell
          clear hcell
          simp only [kRe] at g0 g1 g2 g3 g4 g5
          have ihk2 := fun cs => ihk H cs A c
          simp only [HN.out] at ihk2
          go_wp2_with fail
          refine (ihk2 _ _ hrd ht (hsr.alloc _)).mono ?_
          rintro e w3 ⟨v3, rfl, ho3, hb3⟩
          generalize hX : M t (Re.mk kind' set' args' mn' mx' neg') = X at *
          have HXX := Aside.mk hX
          clear hX
          obtain ⟨A3, c3, rfl, hw3, hA3⟩ := ho3.wr (by rw [rows_length]; omega)
          have HA3 : Aside (∀ a, A3 = some a → w.heap.size + 1 < a.block) := ⟨fun a ha => by have := (hA3 a ha).2.1; simp at this; omega⟩
          clear hA3
          rw [rows_length] at hw3
          rw [rows_length]
          have hbb : Below wr.heap.size wr w3 := bT (bA (Below.refl _ _) _) hb3
          have ho6 := ho5.below (sat_emp _) hbb
          have hcb6 : Aside (∀ i, w3.cell? ⟨w.heap.size, i, none⟩ = w1.cell? ⟨w.heap.size, i, none⟩) := ⟨fun i => by rw [← hcb5.out i]; exact hbb.cell (p := ⟨w.heap.size, i, none⟩) (by show w.heap.size < _; omega)⟩
          have hsz6 : w.heap.size + 1 < w3.heap.size := Nat.lt_of_lt_of_le hsz5 hbb.size
          have hb6 := bT hb5 hbb
          clear hb3 hbb ho5 hcb5 hsz5 hb5 g0 g1 g2 g3 g4 g5 ihk ihk2 hsr ho3
          obtain ⟨wo, rfl⟩ : ∃ wo : World, wo = wr := ⟨_, rfl⟩
          go_wp2_with fail
          go_loopw [50] (fun i wr => ∃ (m : Nat) (ys : List Int), m ≤ n + 1 ∧ i = .int .i64 m ∧ Own (kI .u32) 112 wr w.heap.size emp (.slice (some ⟨w.heap.size + 1, 0, none⟩) (n + 1) (n + 1)) ys ∧ Aside (ys = rows n (fun i j => if i < m then stepL n kind neg R X i j else R i j)) ∧ WR .u32 wr A3 (n + 1) c3 (rows n X) ∧ Aside (∀ i, wr.cell? ⟨w.heap.size, i, none⟩ = w1.cell? ⟨w.heap.size, i, none⟩) ∧ w.heap.size + 1 < wr.heap.size ∧ Below w.heap.size w wr) (fun i _ => n + 1 - (intOf i).toNat)
          case atStart => exact ⟨0, _, by omega, rfl, ho6, ⟨rows_congr fun i j _ _ => by simp⟩, hw3, hcb6, hsz6, hb6⟩
          case round =>
            obtain ⟨m, ys, hm, rfl, ho7, hys, hw7, hcb7, hsz7, hb7⟩ := hrel
            have hl : ys.length = n + 1 := by rw [hys.out, rows_length]
            have hf := ho7.free hl.symm m
            by_cases hmn : m < n + 1
            · have hmi : (m : Int) < (n : Int) + 1 := by omega
              have f0 : wr.cell? ⟨w.heap.size, 0, none⟩ = some (.int .i64 kind) := by rw [hcb7.out, HBOX.out]; rfl
              have f5 : wr.cell? ⟨w.heap.size, 5, none⟩ = some (.bool neg) := by rw [hcb7.out, HBOX.out]; rfl
              obtain ⟨cs, hrd, hcell⟩ := ho7.at m (by omega)
              have hzm : ys[m] = ((mask n (R m) : Nat) : Int) := by
                simp only [hys.out]
                rw [rows_get]
                exact congrArg (fun x : Nat => (x : Int)) (mask_congr fun j _ => by simp)
              generalize ys[m] = z at *
              obtain rfl : cs = [.int .u32 z] := hrd
              subst hzm
              have q0 := hcell 0 _ rfl
              simp only [kI, Nat.add_zero, Nat.mul_one] at q0
              clear hcell
              obtain ⟨b1, o1, rfl, q1⟩ := hw7.at m (by rw [rows_length]; omega)
              rw [rows_get] at q1
              have hc3 := hw7.2.1
              -- what is left of the round, once the cell is written
              have hfin : ∀ (x : Nat) (hx : x = mask n (stepL n kind neg R X m)) (wz : World) (hwz : wz = wr.setCell ⟨w.heap.size + 1, m, none⟩ (.int .u32 (x : Int))),
                  Own (kI .u32) 112 wz w.heap.size emp (.slice (some ⟨w.heap.size + 1, 0, none⟩) (n + 1) (n + 1)) (rows n (fun i j => if i < m + 1 then stepL n kind neg R X i j else R i j)) ∧ WR .u32 wz (some ⟨b1, o1, none⟩) (n + 1) c3 (rows n X) ∧ Aside (∀ i, wz.cell? ⟨w.heap.size, i, none⟩ = w1.cell? ⟨w.heap.size, i, none⟩) ∧ w.heap.size + 1 < wz.heap.size ∧ Below w.heap.size w wz := by
                rintro x hx wz rfl
                obtain ⟨r1, r2⟩ := ho7.put1 hl.symm rfl (i := m) (by omega) (y := ((mask n (stepL n kind neg R X m) : Nat) : Int)) (u := .int .u32 (x : Int)) (by rw [hx]; rfl)
                refine ⟨?_, ?_, ⟨fun i => ?_⟩, by simpa [World.setCell] using hsz7, hb7.setCell (by simp) _⟩
                · have e1 : mask n (stepL n kind neg R X m) = mask n ((fun i j => if i < m + 1 then stepL n kind neg R X i j else R i j) m) := mask_congr fun j _ => by simp
                  rw [e1, hys.out, rows_set n _ (fun i j => if i < m + 1 then stepL n kind neg R X i j else R i j) m (by omega) fun i j _ _ hne => ?_] at r1
                  · exact r1
                  · by_cases hi : i < m
                    · rw [if_pos hi, if_pos (by omega)]
                    · rw [if_neg hi, if_neg (by omega)]
                · obtain ⟨p1, p2, p3, p4, p5, p6⟩ := hw7
                  refine ⟨p1, p2, p3, p4, p5, fun i hi => ?_⟩
                  obtain ⟨b', o', e', p7⟩ := p6 i hi
                  cases e'
                  exact ⟨b1, o1, rfl, by rw [World.cell?_of_block (Below.heap_setCell _ _ _ _ (by have := HA3.out _ rfl; simp at this ⊢; omega))]; exact p7⟩
                · rw [← hcb7.out i]
                  exact World.cell?_of_block (Below.heap_setCell _ _ _ _ (by simp))
              have HFIN := Aside.mk hfin
              have HL := Aside.mk hl
              clear hfin hl hw7 ho7
              have hlm := mask_lt32 n (R m) hn
              have hlx := mask_lt32 n (X m) hn
              have hand := u32_and_nat _ _ hlm hlx
              have handn := u32_andNot_nat _ _ hlm hlx
              rw [mask_and] at hand
              rw [mask_andNot n hn] at handn
              have hz0 := mask_zero (n := n) (p := X m)
              generalize hx0 : mask n (R m) = x0 at *
              generalize hx1 : mask n (X m) = x1 at *
              have HX01 := Aside.mk (And.intro hx0 (And.intro hx1 hz0))
              clear hx0 hx1 hz0
              obtain rfl | rfl | rfl := hkd
              · clear handn
                have hres : mask n (fun j => R m j ∧ X m j) = mask n (stepL n 7 neg R X m) := mask_congr fun j _ => by simp [stepL]
                have HRES := Aside.mk hres
                clear hres
                go_upto_region 20 with (fail)
                go_still_tail 10, (by kernel_rfl)
                go_wp2_with fail
                go_roundw
                case rel =>
                  obtain ⟨r1, r2, r3, r4, r5⟩ := HFIN.out _ HRES.out _ rfl
                  exact ⟨m + 1, _, by omega, by go_num, Own.drew r1, ⟨rfl⟩, r2, r3, r4, r5.drew⟩
                case measure => simp [intOf]; omega
              · clear hand
                have hres : mask n (fun j => R m j ∧ ¬ X m j) = mask n (stepL n 8 neg R X m) := mask_congr fun j _ => by simp [stepL]
                have HRES := Aside.mk hres
                clear hres
                go_upto_region 22 with (fail)
                go_still_tail 10, (by kernel_rfl)
                go_wp2_with fail
                go_roundw
                case rel =>
                  obtain ⟨r1, r2, r3, r4, r5⟩ := HFIN.out _ HRES.out _ rfl
                  exact ⟨m + 1, _, by omega, by go_num, Own.drew r1, ⟨rfl⟩, r2, r3, r4, r5.drew⟩
                case measure => simp [intOf]; omega
              · clear hand handn
                cases neg with
                | false =>
                  by_cases hx10 : x1 = 0
                  · have hx1b : ((x1 : Int) != 0) = false := by rw [hx10]; rfl
                    go_upto_region 23 with (fail)
                    go_quiet (fail)
                    go_wp2_with fail
                    go_roundw
                    case rel =>
                      have hex : (∃ k, k ≤ n ∧ X m k) ↔ False := by
                        have h0 := HX01.out
                        rw [hx10] at h0; simp; exact fun k hk => (h0.2.2.1 rfl) k hk
                      have hres : 0 = mask n (stepL n 10 false R X m) := by
                        symm; exact mask_zero.2 (fun j _ h => by simp [stepL, hex] at h)
                      obtain ⟨r1, r2, r3, r4, r5⟩ := HFIN.out _ hres _ rfl
                      exact ⟨m + 1, _, by omega, by go_num, Own.drewN r1 _, ⟨rfl⟩, r2.below ((Below.refl _ _).drewN _), ⟨fun i => r3.out i⟩, r4, r5.drewN _⟩
                    case measure => simp [intOf]; omega
                  · have hx1b : ((x1 : Int) != 0) = true := by simp; omega
                    go_upto_region 23 with (fail)
                    go_quiet (fail)
                    go_wp2_with fail
                    go_roundw
                    case rel =>
                      have hex : (∃ k, k ≤ n ∧ X m k) ↔ True := by
                        have h0 := HX01.out
                        simp only [iff_true]; apply Classical.byContradiction; intro hne; exact hx10 (h0.2.2.2 (fun j hj hX => hne ⟨j, hj, hX⟩))
                      have hres : (2 ^ m : Nat) = mask n (stepL n 10 false R X m) := by
                        rw [← mask_one n m (by omega)]; exact mask_congr fun j _ => by simp [stepL, hex, eq_comm]
                      obtain ⟨r1, r2, r3, r4, r5⟩ := HFIN.out _ hres _ (by rw [← pow_mod m (by omega)])
                      exact ⟨m + 1, _, by omega, by go_num, Own.drewN r1 _, ⟨rfl⟩, r2.below ((Below.refl _ _).drewN _), ⟨fun i => r3.out i⟩, r4, r5.drewN _⟩
                    case measure => simp [intOf]; omega
                | true =>
                  by_cases hx10 : x1 = 0
                  · have hx1b : ((x1 : Int) != 0) = false := by rw [hx10]; rfl
                    go_upto_region 23 with (fail)
                    go_quiet (fail)
                    go_wp2_with fail
                    go_roundw
                    case rel =>
                      have hex : (∃ k, k ≤ n ∧ X m k) ↔ False := by
                        have h0 := HX01.out
                        rw [hx10] at h0; simp; exact fun k hk => (h0.2.2.1 rfl) k hk
                      have hres : (2 ^ m : Nat) = mask n (stepL n 10 true R X m) := by
                        rw [← mask_one n m (by omega)]; exact mask_congr fun j _ => by simp [stepL, hex, eq_comm]
                      obtain ⟨r1, r2, r3, r4, r5⟩ := HFIN.out _ hres _ (by rw [← pow_mod m (by omega)])
                      exact ⟨m + 1, _, by omega, by go_num, Own.drewN r1 _, ⟨rfl⟩, r2.below ((Below.refl _ _).drewN _), ⟨fun i => r3.out i⟩, r4, r5.drewN _⟩
                    case measure => simp [intOf]; omega
                  · have hx1b : ((x1 : Int) != 0) = true := by simp; omega
                    go_upto_region 23 with (fail)
                    go_quiet (fail)
                    go_wp2_with fail
                    go_roundw
                    case rel =>
                      have hex : (∃ k, k ≤ n ∧ X m k) ↔ True := by
                        have h0 := HX01.out
                        simp only [iff_true]; apply Classical.byContradiction; intro hne; exact hx10 (h0.2.2.2 (fun j hj hX => hne ⟨j, hj, hX⟩))
                      have hres : 0 = mask n (stepL n 10 true R X m) := by
                        symm; exact mask_zero.2 (fun j _ h => by simp [stepL, hex] at h)
                      obtain ⟨r1, r2, r3, r4, r5⟩ := HFIN.out _ hres _ rfl
                      exact ⟨m + 1, _, by omega, by go_num, Own.drewN r1 _, ⟨rfl⟩, r2.below ((Below.refl _ _).drewN _), ⟨fun i => r3.out i⟩, r4, r5.drewN _⟩
                    case measure => simp [intOf]; omega
            · rw [hys.out] at ho7
              have e1 : rows n (fun i j => if i < m then stepL n kind neg R X i j else R i j) = rows n (stepL n kind neg R X) := rows_congr fun i j hi hj => by rw [if_pos (by omega)]
              rw [e1] at ho7
              have HO7 := Aside.mk ho7
              clear e1 ho7 hw7 hf
              go_wp2_with fail
              go_roundw
              case rel =>
                refine ⟨k + 1, by omega, by go_num, ?_, hcb7, hsz7, hb7⟩
                rw [HS.out, List.map_append, List.foldl_append, HR.out]
                have e2 := HXX.out
                simp only [List.map_cons, List.map_nil, List.foldl_cons, List.foldl_nil, e2]
                exact HO7.out
              case measure => simp [intOf]; omega
        · go_wp2_with fail
          go_ret
          refine ⟨_, rfl, ?_, hb5⟩
          have e : args.take k = args := List.take_of_length_le (by omega)
          have hR := HR.out
          rw [e] at hR
          rw [hR]
          exact ho5
end Go.Proofs.Ytbnahmeaeakhhaa.B
