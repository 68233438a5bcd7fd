/-
  NARROWER THAN 'FOR EVERY INPUT', by the rows' own cells (each row's printed sentence says how): RelationTells: loops · RetreeNorms: loops.
  DERIVED. THE GIVEN ROWS OF THIS SEAT. 12 by the template 'for every input the law returns true; each argument reads behind the call as it read before'; 0 by the template 'total and deterministic' (their statements: YtbnahmeaeakhhaaTotals.lean).
  GIVEN WITH THE SEED: the statements are not yours to turn. If you find one false, say at which input.
  Laid BY PROGRAM, IN A SANDBOX (cutbox-rows.mjs): the forced cells as the released guide's own fill.sh prints them over the translation 7b99cc7c737b3196… (all of the seat's roots in one cut). By AI agents, Wed Nov 11 2026. No macro, syntax, notation, axiom, sorry.
-/
import Derived.Test.YtbnahmeaeakhhaaChecked
import GoSem.Claim
import GoSem.ClaimJoined
import GoSem.ClaimMapViews
import Derived.JoinedTies
import Derived.KernelRfl
namespace Go.Proofs.Ytbnahmeaeakhhaa
/- THE CELL 'sum', in the pinned program and in every row, IS THE sha256 OF THE DUMP (.gsa) THAT YtbnahmeaeakhhaaProg.lean LOADS. Nothing in Lean hashes anything: it is a label: what it is worth is what the hold of that sum in a sandbox is worth. -/
noncomputable def Try.pinned : Pinned := { name := "ytbnahmeaeakhhaa", sum := "7b99cc7c737b319611dba188d49258396b9d4d471ecbc1627b63593dbbe6dc82", checked := Try.checked }
namespace Rows
def none {H : Type} : Left H := { results := [], args := [] }

/-- 'parllaw1.RelationTells': WHATEVER THE INPUT: true; the input reads as it did. -/
def relationTellsSpec : ChangeSpec := { name := "relationTells", fn := fun _ => fun
  | [d1, d2] => { results := [.lit (.bool true)], args := [d1, d2] }
  | _ => none }
def relationTellsRow : OpenClaim := { program := "ytbnahmeaeakhhaa", sum := "7b99cc7c737b319611dba188d49258396b9d4d471ecbc1627b63593dbbe6dc82", func := "parlance/parllaw1.RelationTells", spec := "relationTells", recurses := true, loops := true, plainKeys := false, apart := false }
def RelationTellsSaid : Prop := relationTellsRow.holds Try.pinned (OpenSpec.ofChange relationTellsSpec)

/-- ITS FALSE NEIGHBOUR: 'it returns false'. Refute it at one input. -/
def relationTellsWrong : ChangeSpec := { name := "relationTells", fn := fun _ => fun
  | [d1, d2] => { results := [.lit (.bool false)], args := [d1, d2] }
  | _ => none }
def RelationTellsWrongFalsely : Prop := relationTellsRow.holds Try.pinned (OpenSpec.ofChange relationTellsWrong)

/-- 'parlkeep1.RelationKleene': WHATEVER THE INPUT: true; the input reads as it did. -/
def relationKleeneSpec : ChangeSpec := { name := "relationKleene", fn := fun _ => fun
  | [d1, d2, d3, d4] => { results := [.lit (.bool true)], args := [d1, d2, d3, d4] }
  | _ => none }
def relationKleeneRow : OpenClaim := { program := "ytbnahmeaeakhhaa", sum := "7b99cc7c737b319611dba188d49258396b9d4d471ecbc1627b63593dbbe6dc82", func := "parlance/parlkeep1.RelationKleene", spec := "relationKleene", unfollowed := true, recurses := true, plainKeys := false, apart := false }
def RelationKleeneSaid : Prop := relationKleeneRow.holds Try.pinned (OpenSpec.ofChange relationKleeneSpec)

/-- ITS FALSE NEIGHBOUR: 'it returns false'. Refute it at one input. -/
def relationKleeneWrong : ChangeSpec := { name := "relationKleene", fn := fun _ => fun
  | [d1, d2, d3, d4] => { results := [.lit (.bool false)], args := [d1, d2, d3, d4] }
  | _ => none }
def RelationKleeneWrongFalsely : Prop := relationKleeneRow.holds Try.pinned (OpenSpec.ofChange relationKleeneWrong)

/-- 'parlkeep1.RelationBoole': WHATEVER THE INPUT: true; the input reads as it did. -/
def relationBooleSpec : ChangeSpec := { name := "relationBoole", fn := fun _ => fun
  | [d1, d2, d3] => { results := [.lit (.bool true)], args := [d1, d2, d3] }
  | _ => none }
def relationBooleRow : OpenClaim := { program := "ytbnahmeaeakhhaa", sum := "7b99cc7c737b319611dba188d49258396b9d4d471ecbc1627b63593dbbe6dc82", func := "parlance/parlkeep1.RelationBoole", spec := "relationBoole", unfollowed := true, recurses := true, plainKeys := false, apart := false }
def RelationBooleSaid : Prop := relationBooleRow.holds Try.pinned (OpenSpec.ofChange relationBooleSpec)

/-- ITS FALSE NEIGHBOUR: 'it returns false'. Refute it at one input. -/
def relationBooleWrong : ChangeSpec := { name := "relationBoole", fn := fun _ => fun
  | [d1, d2, d3] => { results := [.lit (.bool false)], args := [d1, d2, d3] }
  | _ => none }
def RelationBooleWrongFalsely : Prop := relationBooleRow.holds Try.pinned (OpenSpec.ofChange relationBooleWrong)

/-- 'parllaw1.RetreeNorms': WHATEVER THE INPUT: true; the input reads as it did. -/
def retreeNormsSpec : ChangeSpec := { name := "retreeNorms", fn := fun _ => fun
  | [d] => { results := [.lit (.bool true)], args := [d] }
  | _ => none }
def retreeNormsRow : OpenClaim := { program := "ytbnahmeaeakhhaa", sum := "7b99cc7c737b319611dba188d49258396b9d4d471ecbc1627b63593dbbe6dc82", func := "parlance/parllaw1.RetreeNorms", spec := "retreeNorms", unfollowed := true, recurses := true, loops := true, plainKeys := false, apart := false }
def RetreeNormsSaid : Prop := retreeNormsRow.holds Try.pinned (OpenSpec.ofChange retreeNormsSpec)

/-- ITS FALSE NEIGHBOUR: 'it returns false'. Refute it at one input. -/
def retreeNormsWrong : ChangeSpec := { name := "retreeNorms", fn := fun _ => fun
  | [d] => { results := [.lit (.bool false)], args := [d] }
  | _ => none }
def RetreeNormsWrongFalsely : Prop := retreeNormsRow.holds Try.pinned (OpenSpec.ofChange retreeNormsWrong)

/-- 'parllaw1.MiniSames': WHATEVER THE INPUT: true; the input reads as it did. -/
def miniSamesSpec : ChangeSpec := { name := "miniSames", fn := fun _ => fun
  | [d1, d2] => { results := [.lit (.bool true)], args := [d1, d2] }
  | _ => none }
def miniSamesRow : OpenClaim := { program := "ytbnahmeaeakhhaa", sum := "7b99cc7c737b319611dba188d49258396b9d4d471ecbc1627b63593dbbe6dc82", func := "parlance/parllaw1.MiniSames", spec := "miniSames", unfollowed := true, recurses := true, plainKeys := false, apart := false }
def MiniSamesSaid : Prop := miniSamesRow.holds Try.pinned (OpenSpec.ofChange miniSamesSpec)

/-- ITS FALSE NEIGHBOUR: 'it returns false'. Refute it at one input. -/
def miniSamesWrong : ChangeSpec := { name := "miniSames", fn := fun _ => fun
  | [d1, d2] => { results := [.lit (.bool false)], args := [d1, d2] }
  | _ => none }
def MiniSamesWrongFalsely : Prop := miniSamesRow.holds Try.pinned (OpenSpec.ofChange miniSamesWrong)

/-- 'parlkeep1.NfaShapes': WHATEVER THE INPUT: true; the input reads as it did. -/
def nfaShapesSpec : ChangeSpec := { name := "nfaShapes", fn := fun _ => fun
  | [d1, d2] => { results := [.lit (.bool true)], args := [d1, d2] }
  | _ => none }
def nfaShapesRow : OpenClaim := { program := "ytbnahmeaeakhhaa", sum := "7b99cc7c737b319611dba188d49258396b9d4d471ecbc1627b63593dbbe6dc82", func := "parlance/parlkeep1.NfaShapes", spec := "nfaShapes", unfollowed := true, recurses := true, plainKeys := false, apart := false }
def NfaShapesSaid : Prop := nfaShapesRow.holds Try.pinned (OpenSpec.ofChange nfaShapesSpec)

/-- ITS FALSE NEIGHBOUR: 'it returns false'. Refute it at one input. -/
def nfaShapesWrong : ChangeSpec := { name := "nfaShapes", fn := fun _ => fun
  | [d1, d2] => { results := [.lit (.bool false)], args := [d1, d2] }
  | _ => none }
def NfaShapesWrongFalsely : Prop := nfaShapesRow.holds Try.pinned (OpenSpec.ofChange nfaShapesWrong)

/-- 'parlkeep1.PackTight': WHATEVER THE INPUT: true; the input reads as it did. -/
def packTightSpec : ChangeSpec := { name := "packTight", fn := fun _ => fun
  | [d1, d2, d3] => { results := [.lit (.bool true)], args := [d1, d2, d3] }
  | _ => none }
def packTightRow : OpenClaim := { program := "ytbnahmeaeakhhaa", sum := "7b99cc7c737b319611dba188d49258396b9d4d471ecbc1627b63593dbbe6dc82", func := "parlance/parlkeep1.PackTight", spec := "packTight", unfollowed := true, recurses := true, plainKeys := false, apart := false }
def PackTightSaid : Prop := packTightRow.holds Try.pinned (OpenSpec.ofChange packTightSpec)

/-- ITS FALSE NEIGHBOUR: 'it returns false'. Refute it at one input. -/
def packTightWrong : ChangeSpec := { name := "packTight", fn := fun _ => fun
  | [d1, d2, d3] => { results := [.lit (.bool false)], args := [d1, d2, d3] }
  | _ => none }
def PackTightWrongFalsely : Prop := packTightRow.holds Try.pinned (OpenSpec.ofChange packTightWrong)

/-- 'parllaw1.RowpackTells': WHATEVER THE INPUT: true; the input reads as it did. -/
def rowpackTellsSpec : ChangeSpec := { name := "rowpackTells", fn := fun _ => fun
  | [d] => { results := [.lit (.bool true)], args := [d] }
  | _ => none }
def rowpackTellsRow : OpenClaim := { program := "ytbnahmeaeakhhaa", sum := "7b99cc7c737b319611dba188d49258396b9d4d471ecbc1627b63593dbbe6dc82", func := "parlance/parllaw1.RowpackTells", spec := "rowpackTells", unfollowed := true, recurses := true, plainKeys := false, apart := false }
def RowpackTellsSaid : Prop := rowpackTellsRow.holds Try.pinned (OpenSpec.ofChange rowpackTellsSpec)

/-- ITS FALSE NEIGHBOUR: 'it returns false'. Refute it at one input. -/
def rowpackTellsWrong : ChangeSpec := { name := "rowpackTells", fn := fun _ => fun
  | [d] => { results := [.lit (.bool false)], args := [d] }
  | _ => none }
def RowpackTellsWrongFalsely : Prop := rowpackTellsRow.holds Try.pinned (OpenSpec.ofChange rowpackTellsWrong)

/-- 'parlkeep1.RetreeNormKeeps': WHATEVER THE INPUT: true; the input reads as it did. -/
def retreeNormKeepsSpec : ChangeSpec := { name := "retreeNormKeeps", fn := fun _ => fun
  | [d1, d2] => { results := [.lit (.bool true)], args := [d1, d2] }
  | _ => none }
def retreeNormKeepsRow : OpenClaim := { program := "ytbnahmeaeakhhaa", sum := "7b99cc7c737b319611dba188d49258396b9d4d471ecbc1627b63593dbbe6dc82", func := "parlance/parlkeep1.RetreeNormKeeps", spec := "retreeNormKeeps", unfollowed := true, recurses := true, plainKeys := false, apart := false }
def RetreeNormKeepsSaid : Prop := retreeNormKeepsRow.holds Try.pinned (OpenSpec.ofChange retreeNormKeepsSpec)

/-- ITS FALSE NEIGHBOUR: 'it returns false'. Refute it at one input. -/
def retreeNormKeepsWrong : ChangeSpec := { name := "retreeNormKeeps", fn := fun _ => fun
  | [d1, d2] => { results := [.lit (.bool false)], args := [d1, d2] }
  | _ => none }
def RetreeNormKeepsWrongFalsely : Prop := retreeNormKeepsRow.holds Try.pinned (OpenSpec.ofChange retreeNormKeepsWrong)

/-- 'parlkeep1.RetreeMirrors': WHATEVER THE INPUT: true; the input reads as it did. -/
def retreeMirrorsSpec : ChangeSpec := { name := "retreeMirrors", fn := fun _ => fun
  | [d1, d2] => { results := [.lit (.bool true)], args := [d1, d2] }
  | _ => none }
def retreeMirrorsRow : OpenClaim := { program := "ytbnahmeaeakhhaa", sum := "7b99cc7c737b319611dba188d49258396b9d4d471ecbc1627b63593dbbe6dc82", func := "parlance/parlkeep1.RetreeMirrors", spec := "retreeMirrors", unfollowed := true, recurses := true, plainKeys := false, apart := false }
def RetreeMirrorsSaid : Prop := retreeMirrorsRow.holds Try.pinned (OpenSpec.ofChange retreeMirrorsSpec)

/-- ITS FALSE NEIGHBOUR: 'it returns false'. Refute it at one input. -/
def retreeMirrorsWrong : ChangeSpec := { name := "retreeMirrors", fn := fun _ => fun
  | [d1, d2] => { results := [.lit (.bool false)], args := [d1, d2] }
  | _ => none }
def RetreeMirrorsWrongFalsely : Prop := retreeMirrorsRow.holds Try.pinned (OpenSpec.ofChange retreeMirrorsWrong)

/-- 'parllaw1.RowpackReads': WHATEVER THE INPUT: true; the input reads as it did. -/
def rowpackReadsSpec : ChangeSpec := { name := "rowpackReads", fn := fun _ => fun
  | [d1, d2, d3, d4] => { results := [.lit (.bool true)], args := [d1, d2, d3, d4] }
  | _ => none }
def rowpackReadsRow : OpenClaim := { program := "ytbnahmeaeakhhaa", sum := "7b99cc7c737b319611dba188d49258396b9d4d471ecbc1627b63593dbbe6dc82", func := "parlance/parllaw1.RowpackReads", spec := "rowpackReads", unfollowed := true, recurses := true, plainKeys := false, apart := false }
def RowpackReadsSaid : Prop := rowpackReadsRow.holds Try.pinned (OpenSpec.ofChange rowpackReadsSpec)

/-- ITS FALSE NEIGHBOUR: 'it returns false'. Refute it at one input. -/
def rowpackReadsWrong : ChangeSpec := { name := "rowpackReads", fn := fun _ => fun
  | [d1, d2, d3, d4] => { results := [.lit (.bool false)], args := [d1, d2, d3, d4] }
  | _ => none }
def RowpackReadsWrongFalsely : Prop := rowpackReadsRow.holds Try.pinned (OpenSpec.ofChange rowpackReadsWrong)

/-- 'parlkeep1.PackBack': WHATEVER THE INPUT: true; the input reads as it did. -/
def packBackSpec : ChangeSpec := { name := "packBack", fn := fun _ => fun
  | [d] => { results := [.lit (.bool true)], args := [d] }
  | _ => none }
def packBackRow : OpenClaim := { program := "ytbnahmeaeakhhaa", sum := "7b99cc7c737b319611dba188d49258396b9d4d471ecbc1627b63593dbbe6dc82", func := "parlance/parlkeep1.PackBack", spec := "packBack", unfollowed := true, recurses := true, plainKeys := false, apart := false }
def PackBackSaid : Prop := packBackRow.holds Try.pinned (OpenSpec.ofChange packBackSpec)

/-- ITS FALSE NEIGHBOUR: 'it returns false'. Refute it at one input. -/
def packBackWrong : ChangeSpec := { name := "packBack", fn := fun _ => fun
  | [d] => { results := [.lit (.bool false)], args := [d] }
  | _ => none }
def PackBackWrongFalsely : Prop := packBackRow.holds Try.pinned (OpenSpec.ofChange packBackWrong)

/- THE SECOND FORM. 'bulk': how many values and letters a reading holds, each counted each time it is reached (what is shared counts as often as it is met; a slice's spare places count too). A statement '..UptoSaid' is the law's where the arguments, and the package variables that the reading takes, are together of bulk at most 1048576: NARROWER than '..Said'. Prove '..Said' where nothing that the law and all that it calls make is longer than what came in: it says more and counts as full. Else prove '..UptoSaid'. A law counts once. -/
mutual
def uptoBulk {H : Type} : DataW H → Nat
  | .lit (.string bytes) => bytes.length + 1
  | .lit _ => 1
  | .nil => 1
  | .ptr d => uptoBulk d + 1
  | .slice elems spare => uptoBulkAll elems + uptoBulkAll spare + 1
  | .agg parts => uptoBulkAll parts + 1
  | .iface _ d => uptoBulk d + 1
  | .map entries => uptoBulkEntries entries + 1
  | .held _ => 1
def uptoBulkAll {H : Type} : List (DataW H) → Nat
  | [] => 0
  | d :: r => uptoBulk d + uptoBulkAll r
def uptoBulkEntries {H : Type} : List (Lit × DataW H) → Nat
  | [] => 0
  | x :: r => uptoBulkEntry x + uptoBulkEntries r
def uptoBulkEntry {H : Type} : Lit × DataW H → Nat
  | (.string bytes, d) => bytes.length + uptoBulk d + 1
  | (_, d) => uptoBulk d + 1
 end
def uptoSmall : (H : Type) → List (DataW H) → Bool := fun _ ds => decide (uptoBulkAll ds ≤ 1048576)
def OpenSpec.upto (s : _root_.Go.ChangeSpec) : _root_.Go.OpenSpec := { _root_.Go.OpenSpec.ofChange s with cond := some uptoSmall }

/-- 'parllaw1.RelationTells', WHERE WHAT IT READS IS OF BULK AT MOST 1048576: true; the input reads as it did. -/
def relationTellsUptoRow : OpenClaim := { program := "ytbnahmeaeakhhaa", sum := "7b99cc7c737b319611dba188d49258396b9d4d471ecbc1627b63593dbbe6dc82", func := "parlance/parllaw1.RelationTells", spec := "relationTells", recurses := true, loops := true, plainKeys := false, apart := false, narrowed := true }
def RelationTellsUptoSaid : Prop := relationTellsUptoRow.holds Try.pinned (OpenSpec.upto relationTellsSpec)

/-- 'parlkeep1.RelationKleene', WHERE WHAT IT READS IS OF BULK AT MOST 1048576: true; the input reads as it did. -/
def relationKleeneUptoRow : OpenClaim := { program := "ytbnahmeaeakhhaa", sum := "7b99cc7c737b319611dba188d49258396b9d4d471ecbc1627b63593dbbe6dc82", func := "parlance/parlkeep1.RelationKleene", spec := "relationKleene", unfollowed := true, recurses := true, plainKeys := false, apart := false, narrowed := true }
def RelationKleeneUptoSaid : Prop := relationKleeneUptoRow.holds Try.pinned (OpenSpec.upto relationKleeneSpec)

/-- 'parlkeep1.RelationBoole', WHERE WHAT IT READS IS OF BULK AT MOST 1048576: true; the input reads as it did. -/
def relationBooleUptoRow : OpenClaim := { program := "ytbnahmeaeakhhaa", sum := "7b99cc7c737b319611dba188d49258396b9d4d471ecbc1627b63593dbbe6dc82", func := "parlance/parlkeep1.RelationBoole", spec := "relationBoole", unfollowed := true, recurses := true, plainKeys := false, apart := false, narrowed := true }
def RelationBooleUptoSaid : Prop := relationBooleUptoRow.holds Try.pinned (OpenSpec.upto relationBooleSpec)

/-- 'parllaw1.RetreeNorms', WHERE WHAT IT READS IS OF BULK AT MOST 1048576: true; the input reads as it did. -/
def retreeNormsUptoRow : OpenClaim := { program := "ytbnahmeaeakhhaa", sum := "7b99cc7c737b319611dba188d49258396b9d4d471ecbc1627b63593dbbe6dc82", func := "parlance/parllaw1.RetreeNorms", spec := "retreeNorms", unfollowed := true, recurses := true, loops := true, plainKeys := false, apart := false, narrowed := true }
def RetreeNormsUptoSaid : Prop := retreeNormsUptoRow.holds Try.pinned (OpenSpec.upto retreeNormsSpec)

/-- 'parllaw1.MiniSames', WHERE WHAT IT READS IS OF BULK AT MOST 1048576: true; the input reads as it did. -/
def miniSamesUptoRow : OpenClaim := { program := "ytbnahmeaeakhhaa", sum := "7b99cc7c737b319611dba188d49258396b9d4d471ecbc1627b63593dbbe6dc82", func := "parlance/parllaw1.MiniSames", spec := "miniSames", unfollowed := true, recurses := true, plainKeys := false, apart := false, narrowed := true }
def MiniSamesUptoSaid : Prop := miniSamesUptoRow.holds Try.pinned (OpenSpec.upto miniSamesSpec)

/-- 'parlkeep1.NfaShapes', WHERE WHAT IT READS IS OF BULK AT MOST 1048576: true; the input reads as it did. -/
def nfaShapesUptoRow : OpenClaim := { program := "ytbnahmeaeakhhaa", sum := "7b99cc7c737b319611dba188d49258396b9d4d471ecbc1627b63593dbbe6dc82", func := "parlance/parlkeep1.NfaShapes", spec := "nfaShapes", unfollowed := true, recurses := true, plainKeys := false, apart := false, narrowed := true }
def NfaShapesUptoSaid : Prop := nfaShapesUptoRow.holds Try.pinned (OpenSpec.upto nfaShapesSpec)

/-- 'parlkeep1.PackTight', WHERE WHAT IT READS IS OF BULK AT MOST 1048576: true; the input reads as it did. -/
def packTightUptoRow : OpenClaim := { program := "ytbnahmeaeakhhaa", sum := "7b99cc7c737b319611dba188d49258396b9d4d471ecbc1627b63593dbbe6dc82", func := "parlance/parlkeep1.PackTight", spec := "packTight", unfollowed := true, recurses := true, plainKeys := false, apart := false, narrowed := true }
def PackTightUptoSaid : Prop := packTightUptoRow.holds Try.pinned (OpenSpec.upto packTightSpec)

/-- 'parllaw1.RowpackTells', WHERE WHAT IT READS IS OF BULK AT MOST 1048576: true; the input reads as it did. -/
def rowpackTellsUptoRow : OpenClaim := { program := "ytbnahmeaeakhhaa", sum := "7b99cc7c737b319611dba188d49258396b9d4d471ecbc1627b63593dbbe6dc82", func := "parlance/parllaw1.RowpackTells", spec := "rowpackTells", unfollowed := true, recurses := true, plainKeys := false, apart := false, narrowed := true }
def RowpackTellsUptoSaid : Prop := rowpackTellsUptoRow.holds Try.pinned (OpenSpec.upto rowpackTellsSpec)

/-- 'parlkeep1.RetreeNormKeeps', WHERE WHAT IT READS IS OF BULK AT MOST 1048576: true; the input reads as it did. -/
def retreeNormKeepsUptoRow : OpenClaim := { program := "ytbnahmeaeakhhaa", sum := "7b99cc7c737b319611dba188d49258396b9d4d471ecbc1627b63593dbbe6dc82", func := "parlance/parlkeep1.RetreeNormKeeps", spec := "retreeNormKeeps", unfollowed := true, recurses := true, plainKeys := false, apart := false, narrowed := true }
def RetreeNormKeepsUptoSaid : Prop := retreeNormKeepsUptoRow.holds Try.pinned (OpenSpec.upto retreeNormKeepsSpec)

/-- 'parlkeep1.RetreeMirrors', WHERE WHAT IT READS IS OF BULK AT MOST 1048576: true; the input reads as it did. -/
def retreeMirrorsUptoRow : OpenClaim := { program := "ytbnahmeaeakhhaa", sum := "7b99cc7c737b319611dba188d49258396b9d4d471ecbc1627b63593dbbe6dc82", func := "parlance/parlkeep1.RetreeMirrors", spec := "retreeMirrors", unfollowed := true, recurses := true, plainKeys := false, apart := false, narrowed := true }
def RetreeMirrorsUptoSaid : Prop := retreeMirrorsUptoRow.holds Try.pinned (OpenSpec.upto retreeMirrorsSpec)

/-- 'parllaw1.RowpackReads', WHERE WHAT IT READS IS OF BULK AT MOST 1048576: true; the input reads as it did. -/
def rowpackReadsUptoRow : OpenClaim := { program := "ytbnahmeaeakhhaa", sum := "7b99cc7c737b319611dba188d49258396b9d4d471ecbc1627b63593dbbe6dc82", func := "parlance/parllaw1.RowpackReads", spec := "rowpackReads", unfollowed := true, recurses := true, plainKeys := false, apart := false, narrowed := true }
def RowpackReadsUptoSaid : Prop := rowpackReadsUptoRow.holds Try.pinned (OpenSpec.upto rowpackReadsSpec)

/-- 'parlkeep1.PackBack', WHERE WHAT IT READS IS OF BULK AT MOST 1048576: true; the input reads as it did. -/
def packBackUptoRow : OpenClaim := { program := "ytbnahmeaeakhhaa", sum := "7b99cc7c737b319611dba188d49258396b9d4d471ecbc1627b63593dbbe6dc82", func := "parlance/parlkeep1.PackBack", spec := "packBack", unfollowed := true, recurses := true, plainKeys := false, apart := false, narrowed := true }
def PackBackUptoSaid : Prop := packBackUptoRow.holds Try.pinned (OpenSpec.upto packBackSpec)

end Rows
end Go.Proofs.Ytbnahmeaeakhhaa
