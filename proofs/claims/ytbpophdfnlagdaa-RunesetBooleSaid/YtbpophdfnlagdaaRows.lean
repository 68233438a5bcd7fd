/-
  No cell of these rows narrows 'for every input' (looked for: loops, veiled, ifaces, maps, wideKeys, modest, calm, conditions, laid).
  DERIVED. THE GIVEN ROWS OF THIS SEAT. 7 by the template 'for every input the law returns true; each argument reads behind the call as it read before'; 0 by the template 'total and deterministic' (their statements: YtbpophdfnlagdaaTotals.lean).
  GIVEN WITH THE SEED: the statements are not yours to turn. If you find one false, say at which input.
  Laid BY PROGRAM, IN A SANDBOX (cutbox-rows.mjs): the forced cells as the released guide's own fill.sh prints them over the translation ac442c32c0bee05a… (all of the seat's roots in one cut). By AI agents, Wed Nov 11 2026. No macro, syntax, notation, axiom, sorry.
-/
import Derived.Test.YtbpophdfnlagdaaChecked
import GoSem.Claim
import GoSem.ClaimJoined
import GoSem.ClaimMapViews
import Derived.JoinedTies
import Derived.KernelRfl
namespace Go.Proofs.Ytbpophdfnlagdaa
/- THE CELL 'sum', in the pinned program and in every row, IS THE sha256 OF THE DUMP (.gsa) THAT YtbpophdfnlagdaaProg.lean LOADS. Nothing in Lean hashes anything: it is a label: what it is worth is what the hold of that sum in a sandbox is worth. -/
noncomputable def Try.pinned : Pinned := { name := "ytbpophdfnlagdaa", sum := "ac442c32c0bee05a533d4f7320b1784a6f73b64fd807b5aa1842115335b12818", checked := Try.checked }
namespace Rows
def none {H : Type} : Left H := { results := [], args := [] }

/-- 'parlkeep1.RunesetBoole': WHATEVER THE INPUT: true; the input reads as it did. -/
def runesetBooleSpec : ChangeSpec := { name := "runesetBoole", fn := fun _ => fun
  | [d1, d2] => { results := [.lit (.bool true)], args := [d1, d2] }
  | _ => none }
def runesetBooleRow : OpenClaim := { program := "ytbpophdfnlagdaa", sum := "ac442c32c0bee05a533d4f7320b1784a6f73b64fd807b5aa1842115335b12818", func := "parlance/parlkeep1.RunesetBoole", spec := "runesetBoole", unfollowed := true, recurses := true, apart := false }
def RunesetBooleSaid : Prop := runesetBooleRow.holds Try.pinned (OpenSpec.ofChange runesetBooleSpec)

/-- ITS FALSE NEIGHBOUR: 'it returns false'. Refute it at one input. -/
def runesetBooleWrong : ChangeSpec := { name := "runesetBoole", fn := fun _ => fun
  | [d1, d2] => { results := [.lit (.bool false)], args := [d1, d2] }
  | _ => none }
def RunesetBooleWrongFalsely : Prop := runesetBooleRow.holds Try.pinned (OpenSpec.ofChange runesetBooleWrong)

/-- 'parllaw1.RunesetTells': WHATEVER THE INPUT: true; the input reads as it did. -/
def runesetTellsSpec : ChangeSpec := { name := "runesetTells", fn := fun _ => fun
  | [d1, d2, d3] => { results := [.lit (.bool true)], args := [d1, d2, d3] }
  | _ => none }
def runesetTellsRow : OpenClaim := { program := "ytbpophdfnlagdaa", sum := "ac442c32c0bee05a533d4f7320b1784a6f73b64fd807b5aa1842115335b12818", func := "parlance/parllaw1.RunesetTells", spec := "runesetTells", unfollowed := true, recurses := true, apart := false }
def RunesetTellsSaid : Prop := runesetTellsRow.holds Try.pinned (OpenSpec.ofChange runesetTellsSpec)

/-- ITS FALSE NEIGHBOUR: 'it returns false'. Refute it at one input. -/
def runesetTellsWrong : ChangeSpec := { name := "runesetTells", fn := fun _ => fun
  | [d1, d2, d3] => { results := [.lit (.bool false)], args := [d1, d2, d3] }
  | _ => none }
def RunesetTellsWrongFalsely : Prop := runesetTellsRow.holds Try.pinned (OpenSpec.ofChange runesetTellsWrong)

/-- 'parlkeep1.FoldCloses': WHATEVER THE INPUT: true; the input reads as it did. -/
def foldClosesSpec : ChangeSpec := { name := "foldCloses", fn := fun _ => fun
  | [d1, d2] => { results := [.lit (.bool true)], args := [d1, d2] }
  | _ => none }
def foldClosesRow : OpenClaim := { program := "ytbpophdfnlagdaa", sum := "ac442c32c0bee05a533d4f7320b1784a6f73b64fd807b5aa1842115335b12818", func := "parlance/parlkeep1.FoldCloses", spec := "foldCloses", unfollowed := true, recurses := true, apart := false }
def FoldClosesSaid : Prop := foldClosesRow.holds Try.pinned (OpenSpec.ofChange foldClosesSpec)

/-- ITS FALSE NEIGHBOUR: 'it returns false'. Refute it at one input. -/
def foldClosesWrong : ChangeSpec := { name := "foldCloses", fn := fun _ => fun
  | [d1, d2] => { results := [.lit (.bool false)], args := [d1, d2] }
  | _ => none }
def FoldClosesWrongFalsely : Prop := foldClosesRow.holds Try.pinned (OpenSpec.ofChange foldClosesWrong)

/-- 'parllaw1.FoldTells': WHATEVER THE INPUT: true; the input reads as it did. -/
def foldTellsSpec : ChangeSpec := { name := "foldTells", fn := fun _ => fun
  | [d1, d2, d3, d4] => { results := [.lit (.bool true)], args := [d1, d2, d3, d4] }
  | _ => none }
def foldTellsRow : OpenClaim := { program := "ytbpophdfnlagdaa", sum := "ac442c32c0bee05a533d4f7320b1784a6f73b64fd807b5aa1842115335b12818", func := "parlance/parllaw1.FoldTells", spec := "foldTells", unfollowed := true, recurses := true, apart := false }
def FoldTellsSaid : Prop := foldTellsRow.holds Try.pinned (OpenSpec.ofChange foldTellsSpec)

/-- ITS FALSE NEIGHBOUR: 'it returns false'. Refute it at one input. -/
def foldTellsWrong : ChangeSpec := { name := "foldTells", fn := fun _ => fun
  | [d1, d2, d3, d4] => { results := [.lit (.bool false)], args := [d1, d2, d3, d4] }
  | _ => none }
def FoldTellsWrongFalsely : Prop := foldTellsRow.holds Try.pinned (OpenSpec.ofChange foldTellsWrong)

/-- 'parllaw1.ClassesMap': WHATEVER THE INPUT: true; the input reads as it did. -/
def classesMapSpec : ChangeSpec := { name := "classesMap", fn := fun _ => fun
  | [d1, d2, d3] => { results := [.lit (.bool true)], args := [d1, d2, d3] }
  | _ => none }
def classesMapRow : OpenClaim := { program := "ytbpophdfnlagdaa", sum := "ac442c32c0bee05a533d4f7320b1784a6f73b64fd807b5aa1842115335b12818", func := "parlance/parllaw1.ClassesMap", spec := "classesMap", unfollowed := true, recurses := true, apart := false }
def ClassesMapSaid : Prop := classesMapRow.holds Try.pinned (OpenSpec.ofChange classesMapSpec)

/-- ITS FALSE NEIGHBOUR: 'it returns false'. Refute it at one input. -/
def classesMapWrong : ChangeSpec := { name := "classesMap", fn := fun _ => fun
  | [d1, d2, d3] => { results := [.lit (.bool false)], args := [d1, d2, d3] }
  | _ => none }
def ClassesMapWrongFalsely : Prop := classesMapRow.holds Try.pinned (OpenSpec.ofChange classesMapWrong)

/-- 'parllaw1.ClassesTells': WHATEVER THE INPUT: true; the input reads as it did. -/
def classesTellsSpec : ChangeSpec := { name := "classesTells", fn := fun _ => fun
  | [d1, d2, d3] => { results := [.lit (.bool true)], args := [d1, d2, d3] }
  | _ => none }
def classesTellsRow : OpenClaim := { program := "ytbpophdfnlagdaa", sum := "ac442c32c0bee05a533d4f7320b1784a6f73b64fd807b5aa1842115335b12818", func := "parlance/parllaw1.ClassesTells", spec := "classesTells", unfollowed := true, recurses := true, apart := false }
def ClassesTellsSaid : Prop := classesTellsRow.holds Try.pinned (OpenSpec.ofChange classesTellsSpec)

/-- ITS FALSE NEIGHBOUR: 'it returns false'. Refute it at one input. -/
def classesTellsWrong : ChangeSpec := { name := "classesTells", fn := fun _ => fun
  | [d1, d2, d3] => { results := [.lit (.bool false)], args := [d1, d2, d3] }
  | _ => none }
def ClassesTellsWrongFalsely : Prop := classesTellsRow.holds Try.pinned (OpenSpec.ofChange classesTellsWrong)

/-- 'parlkeep1.ClassesCoarsest': WHATEVER THE INPUT: true; the input reads as it did. -/
def classesCoarsestSpec : ChangeSpec := { name := "classesCoarsest", fn := fun _ => fun
  | [d1, d2, d3, d4] => { results := [.lit (.bool true)], args := [d1, d2, d3, d4] }
  | _ => none }
def classesCoarsestRow : OpenClaim := { program := "ytbpophdfnlagdaa", sum := "ac442c32c0bee05a533d4f7320b1784a6f73b64fd807b5aa1842115335b12818", func := "parlance/parlkeep1.ClassesCoarsest", spec := "classesCoarsest", unfollowed := true, recurses := true, apart := false }
def ClassesCoarsestSaid : Prop := classesCoarsestRow.holds Try.pinned (OpenSpec.ofChange classesCoarsestSpec)

/-- ITS FALSE NEIGHBOUR: 'it returns false'. Refute it at one input. -/
def classesCoarsestWrong : ChangeSpec := { name := "classesCoarsest", fn := fun _ => fun
  | [d1, d2, d3, d4] => { results := [.lit (.bool false)], args := [d1, d2, d3, d4] }
  | _ => none }
def ClassesCoarsestWrongFalsely : Prop := classesCoarsestRow.holds Try.pinned (OpenSpec.ofChange classesCoarsestWrong)

/- THE SECOND FORM. 'bulk': how many values and letters a reading holds, each counted each time it is reached (what is shared counts as often as it is met; a slice's spare places count too). A statement '..UptoSaid' is the law's where the arguments, and the package variables that the reading takes, are together of bulk at most 1048576: NARROWER than '..Said'. Prove '..Said' where nothing that the law and all that it calls make is longer than what came in: it says more and counts as full. Else prove '..UptoSaid'. A law counts once. -/
mutual
def uptoBulk {H : Type} : DataW H → Nat
  | .lit (.string bytes) => bytes.length + 1
  | .lit _ => 1
  | .nil => 1
  | .ptr d => uptoBulk d + 1
  | .slice elems spare => uptoBulkAll elems + uptoBulkAll spare + 1
  | .agg parts => uptoBulkAll parts + 1
  | .iface _ d => uptoBulk d + 1
  | .map entries => uptoBulkEntries entries + 1
  | .held _ => 1
def uptoBulkAll {H : Type} : List (DataW H) → Nat
  | [] => 0
  | d :: r => uptoBulk d + uptoBulkAll r
def uptoBulkEntries {H : Type} : List (Lit × DataW H) → Nat
  | [] => 0
  | x :: r => uptoBulkEntry x + uptoBulkEntries r
def uptoBulkEntry {H : Type} : Lit × DataW H → Nat
  | (.string bytes, d) => bytes.length + uptoBulk d + 1
  | (_, d) => uptoBulk d + 1
 end
def uptoSmall : (H : Type) → List (DataW H) → Bool := fun _ ds => decide (uptoBulkAll ds ≤ 1048576)
def OpenSpec.upto (s : _root_.Go.ChangeSpec) : _root_.Go.OpenSpec := { _root_.Go.OpenSpec.ofChange s with cond := some uptoSmall }

/-- 'parlkeep1.RunesetBoole', WHERE WHAT IT READS IS OF BULK AT MOST 1048576: true; the input reads as it did. -/
def runesetBooleUptoRow : OpenClaim := { program := "ytbpophdfnlagdaa", sum := "ac442c32c0bee05a533d4f7320b1784a6f73b64fd807b5aa1842115335b12818", func := "parlance/parlkeep1.RunesetBoole", spec := "runesetBoole", unfollowed := true, recurses := true, apart := false, narrowed := true }
def RunesetBooleUptoSaid : Prop := runesetBooleUptoRow.holds Try.pinned (OpenSpec.upto runesetBooleSpec)

/-- 'parllaw1.RunesetTells', WHERE WHAT IT READS IS OF BULK AT MOST 1048576: true; the input reads as it did. -/
def runesetTellsUptoRow : OpenClaim := { program := "ytbpophdfnlagdaa", sum := "ac442c32c0bee05a533d4f7320b1784a6f73b64fd807b5aa1842115335b12818", func := "parlance/parllaw1.RunesetTells", spec := "runesetTells", unfollowed := true, recurses := true, apart := false, narrowed := true }
def RunesetTellsUptoSaid : Prop := runesetTellsUptoRow.holds Try.pinned (OpenSpec.upto runesetTellsSpec)

/-- 'parlkeep1.FoldCloses', WHERE WHAT IT READS IS OF BULK AT MOST 1048576: true; the input reads as it did. -/
def foldClosesUptoRow : OpenClaim := { program := "ytbpophdfnlagdaa", sum := "ac442c32c0bee05a533d4f7320b1784a6f73b64fd807b5aa1842115335b12818", func := "parlance/parlkeep1.FoldCloses", spec := "foldCloses", unfollowed := true, recurses := true, apart := false, narrowed := true }
def FoldClosesUptoSaid : Prop := foldClosesUptoRow.holds Try.pinned (OpenSpec.upto foldClosesSpec)

/-- 'parllaw1.FoldTells', WHERE WHAT IT READS IS OF BULK AT MOST 1048576: true; the input reads as it did. -/
def foldTellsUptoRow : OpenClaim := { program := "ytbpophdfnlagdaa", sum := "ac442c32c0bee05a533d4f7320b1784a6f73b64fd807b5aa1842115335b12818", func := "parlance/parllaw1.FoldTells", spec := "foldTells", unfollowed := true, recurses := true, apart := false, narrowed := true }
def FoldTellsUptoSaid : Prop := foldTellsUptoRow.holds Try.pinned (OpenSpec.upto foldTellsSpec)

/-- 'parllaw1.ClassesMap', WHERE WHAT IT READS IS OF BULK AT MOST 1048576: true; the input reads as it did. -/
def classesMapUptoRow : OpenClaim := { program := "ytbpophdfnlagdaa", sum := "ac442c32c0bee05a533d4f7320b1784a6f73b64fd807b5aa1842115335b12818", func := "parlance/parllaw1.ClassesMap", spec := "classesMap", unfollowed := true, recurses := true, apart := false, narrowed := true }
def ClassesMapUptoSaid : Prop := classesMapUptoRow.holds Try.pinned (OpenSpec.upto classesMapSpec)

/-- 'parllaw1.ClassesTells', WHERE WHAT IT READS IS OF BULK AT MOST 1048576: true; the input reads as it did. -/
def classesTellsUptoRow : OpenClaim := { program := "ytbpophdfnlagdaa", sum := "ac442c32c0bee05a533d4f7320b1784a6f73b64fd807b5aa1842115335b12818", func := "parlance/parllaw1.ClassesTells", spec := "classesTells", unfollowed := true, recurses := true, apart := false, narrowed := true }
def ClassesTellsUptoSaid : Prop := classesTellsUptoRow.holds Try.pinned (OpenSpec.upto classesTellsSpec)

/-- 'parlkeep1.ClassesCoarsest', WHERE WHAT IT READS IS OF BULK AT MOST 1048576: true; the input reads as it did. -/
def classesCoarsestUptoRow : OpenClaim := { program := "ytbpophdfnlagdaa", sum := "ac442c32c0bee05a533d4f7320b1784a6f73b64fd807b5aa1842115335b12818", func := "parlance/parlkeep1.ClassesCoarsest", spec := "classesCoarsest", unfollowed := true, recurses := true, apart := false, narrowed := true }
def ClassesCoarsestUptoSaid : Prop := classesCoarsestUptoRow.holds Try.pinned (OpenSpec.upto classesCoarsestSpec)

end Rows
end Go.Proofs.Ytbpophdfnlagdaa
