/-
  No cell of these rows narrows 'for every input' (looked for: loops, veiled, ifaces, maps, wideKeys, modest, calm, conditions, laid).
  DERIVED. THE GIVEN ROWS OF THIS SEAT. 15 by the template 'for every input the law returns true; each argument reads behind the call as it read before'; 0 by the template 'total and deterministic' (their statements: YtolifggjblfobaaTotals.lean).
  GIVEN WITH THE SEED: the statements are not yours to turn. If you find one false, say at which input.
  Laid BY PROGRAM, IN A SANDBOX (cutbox-rows.mjs): the forced cells as the released guide's own fill.sh prints them over the translation bfc448b9406da6bc… (all of the seat's roots in one cut). By AI agents, Wed Nov 11 2026. No macro, syntax, notation, axiom, sorry.
-/
import Derived.Test.YtolifggjblfobaaChecked
import GoSem.Claim
import GoSem.ClaimJoined
import GoSem.ClaimMapViews
import Derived.JoinedTies
import Derived.KernelRfl
namespace Go.Proofs.Ytolifggjblfobaa
/- THE CELL 'sum', in the pinned program and in every row, IS THE sha256 OF THE DUMP (.gsa) THAT YtolifggjblfobaaProg.lean LOADS. Nothing in Lean hashes anything: it is a label: what it is worth is what the hold of that sum in a sandbox is worth. -/
noncomputable def Try.pinned : Pinned := { name := "ytolifggjblfobaa", sum := "bfc448b9406da6bc3a798b74bd25213b0fdafbf4efcaba817dd2dafd7c22b73e", checked := Try.checked }
namespace Rows
def none {H : Type} : Left H := { results := [], args := [] }

/-- 'laws.FnView': WHATEVER THE INPUT: true; the input reads as it did. -/
def fnViewSpec : ChangeSpec := { name := "fnView", fn := fun _ => fun
  | [d] => { results := [.lit (.bool true)], args := [d] }
  | _ => none }
def fnViewRow : OpenClaim := { program := "ytolifggjblfobaa", sum := "bfc448b9406da6bc3a798b74bd25213b0fdafbf4efcaba817dd2dafd7c22b73e", func := "loop.example/mixrelay/laws.FnView", spec := "fnView", unfollowed := true, recurses := true, apart := false }
def FnViewSaid : Prop := fnViewRow.holds Try.pinned (OpenSpec.ofChange fnViewSpec)

/-- ITS FALSE NEIGHBOUR: 'it returns false'. Refute it at one input. -/
def fnViewWrong : ChangeSpec := { name := "fnView", fn := fun _ => fun
  | [d] => { results := [.lit (.bool false)], args := [d] }
  | _ => none }
def FnViewWrongFalsely : Prop := fnViewRow.holds Try.pinned (OpenSpec.ofChange fnViewWrong)

/-- 'laws.FnViewKeeps': WHATEVER THE INPUT: true; the input reads as it did. -/
def fnViewKeepsSpec : ChangeSpec := { name := "fnViewKeeps", fn := fun _ => fun
  | [d] => { results := [.lit (.bool true)], args := [d] }
  | _ => none }
def fnViewKeepsRow : OpenClaim := { program := "ytolifggjblfobaa", sum := "bfc448b9406da6bc3a798b74bd25213b0fdafbf4efcaba817dd2dafd7c22b73e", func := "loop.example/mixrelay/laws.FnViewKeeps", spec := "fnViewKeeps", unfollowed := true, recurses := true, apart := false }
def FnViewKeepsSaid : Prop := fnViewKeepsRow.holds Try.pinned (OpenSpec.ofChange fnViewKeepsSpec)

/-- ITS FALSE NEIGHBOUR: 'it returns false'. Refute it at one input. -/
def fnViewKeepsWrong : ChangeSpec := { name := "fnViewKeeps", fn := fun _ => fun
  | [d] => { results := [.lit (.bool false)], args := [d] }
  | _ => none }
def FnViewKeepsWrongFalsely : Prop := fnViewKeepsRow.holds Try.pinned (OpenSpec.ofChange fnViewKeepsWrong)

/-- 'laws.FnViewPart': WHATEVER THE INPUT: true; the input reads as it did. -/
def fnViewPartSpec : ChangeSpec := { name := "fnViewPart", fn := fun _ => fun
  | [d1, d2] => { results := [.lit (.bool true)], args := [d1, d2] }
  | _ => none }
def fnViewPartRow : OpenClaim := { program := "ytolifggjblfobaa", sum := "bfc448b9406da6bc3a798b74bd25213b0fdafbf4efcaba817dd2dafd7c22b73e", func := "loop.example/mixrelay/laws.FnViewPart", spec := "fnViewPart", unfollowed := true, recurses := true, apart := false }
def FnViewPartSaid : Prop := fnViewPartRow.holds Try.pinned (OpenSpec.ofChange fnViewPartSpec)

/-- ITS FALSE NEIGHBOUR: 'it returns false'. Refute it at one input. -/
def fnViewPartWrong : ChangeSpec := { name := "fnViewPart", fn := fun _ => fun
  | [d1, d2] => { results := [.lit (.bool false)], args := [d1, d2] }
  | _ => none }
def FnViewPartWrongFalsely : Prop := fnViewPartRow.holds Try.pinned (OpenSpec.ofChange fnViewPartWrong)

/-- 'laws.FnViewRename': WHATEVER THE INPUT: true; the input reads as it did. -/
def fnViewRenameSpec : ChangeSpec := { name := "fnViewRename", fn := fun _ => fun
  | [d1, d2] => { results := [.lit (.bool true)], args := [d1, d2] }
  | _ => none }
def fnViewRenameRow : OpenClaim := { program := "ytolifggjblfobaa", sum := "bfc448b9406da6bc3a798b74bd25213b0fdafbf4efcaba817dd2dafd7c22b73e", func := "loop.example/mixrelay/laws.FnViewRename", spec := "fnViewRename", unfollowed := true, recurses := true, apart := false }
def FnViewRenameSaid : Prop := fnViewRenameRow.holds Try.pinned (OpenSpec.ofChange fnViewRenameSpec)

/-- ITS FALSE NEIGHBOUR: 'it returns false'. Refute it at one input. -/
def fnViewRenameWrong : ChangeSpec := { name := "fnViewRename", fn := fun _ => fun
  | [d1, d2] => { results := [.lit (.bool false)], args := [d1, d2] }
  | _ => none }
def FnViewRenameWrongFalsely : Prop := fnViewRenameRow.holds Try.pinned (OpenSpec.ofChange fnViewRenameWrong)

/-- 'laws.FnViewTwice': WHATEVER THE INPUT: true; the input reads as it did. -/
def fnViewTwiceSpec : ChangeSpec := { name := "fnViewTwice", fn := fun _ => fun
  | [d] => { results := [.lit (.bool true)], args := [d] }
  | _ => none }
def fnViewTwiceRow : OpenClaim := { program := "ytolifggjblfobaa", sum := "bfc448b9406da6bc3a798b74bd25213b0fdafbf4efcaba817dd2dafd7c22b73e", func := "loop.example/mixrelay/laws.FnViewTwice", spec := "fnViewTwice", unfollowed := true, recurses := true, apart := false }
def FnViewTwiceSaid : Prop := fnViewTwiceRow.holds Try.pinned (OpenSpec.ofChange fnViewTwiceSpec)

/-- ITS FALSE NEIGHBOUR: 'it returns false'. Refute it at one input. -/
def fnViewTwiceWrong : ChangeSpec := { name := "fnViewTwice", fn := fun _ => fun
  | [d] => { results := [.lit (.bool false)], args := [d] }
  | _ => none }
def FnViewTwiceWrongFalsely : Prop := fnViewTwiceRow.holds Try.pinned (OpenSpec.ofChange fnViewTwiceWrong)

/-- 'laws.FnExactViewSame': WHATEVER THE INPUT: true; the input reads as it did. -/
def fnExactViewSameSpec : ChangeSpec := { name := "fnExactViewSame", fn := fun _ => fun
  | [d1, d2] => { results := [.lit (.bool true)], args := [d1, d2] }
  | _ => none }
def fnExactViewSameRow : OpenClaim := { program := "ytolifggjblfobaa", sum := "bfc448b9406da6bc3a798b74bd25213b0fdafbf4efcaba817dd2dafd7c22b73e", func := "loop.example/mixrelay/laws.FnExactViewSame", spec := "fnExactViewSame", unfollowed := true, recurses := true, apart := false }
def FnExactViewSameSaid : Prop := fnExactViewSameRow.holds Try.pinned (OpenSpec.ofChange fnExactViewSameSpec)

/-- ITS FALSE NEIGHBOUR: 'it returns false'. Refute it at one input. -/
def fnExactViewSameWrong : ChangeSpec := { name := "fnExactViewSame", fn := fun _ => fun
  | [d1, d2] => { results := [.lit (.bool false)], args := [d1, d2] }
  | _ => none }
def FnExactViewSameWrongFalsely : Prop := fnExactViewSameRow.holds Try.pinned (OpenSpec.ofChange fnExactViewSameWrong)

/-- 'laws.FnExactViewOf': WHATEVER THE INPUT: true; the input reads as it did. -/
def fnExactViewOfSpec : ChangeSpec := { name := "fnExactViewOf", fn := fun _ => fun
  | [d] => { results := [.lit (.bool true)], args := [d] }
  | _ => none }
def fnExactViewOfRow : OpenClaim := { program := "ytolifggjblfobaa", sum := "bfc448b9406da6bc3a798b74bd25213b0fdafbf4efcaba817dd2dafd7c22b73e", func := "loop.example/mixrelay/laws.FnExactViewOf", spec := "fnExactViewOf", unfollowed := true, recurses := true, apart := false }
def FnExactViewOfSaid : Prop := fnExactViewOfRow.holds Try.pinned (OpenSpec.ofChange fnExactViewOfSpec)

/-- ITS FALSE NEIGHBOUR: 'it returns false'. Refute it at one input. -/
def fnExactViewOfWrong : ChangeSpec := { name := "fnExactViewOf", fn := fun _ => fun
  | [d] => { results := [.lit (.bool false)], args := [d] }
  | _ => none }
def FnExactViewOfWrongFalsely : Prop := fnExactViewOfRow.holds Try.pinned (OpenSpec.ofChange fnExactViewOfWrong)

/-- 'laws.FnViewSame': WHATEVER THE INPUT: true; the input reads as it did. -/
def fnViewSameSpec : ChangeSpec := { name := "fnViewSame", fn := fun _ => fun
  | [d] => { results := [.lit (.bool true)], args := [d] }
  | _ => none }
def fnViewSameRow : OpenClaim := { program := "ytolifggjblfobaa", sum := "bfc448b9406da6bc3a798b74bd25213b0fdafbf4efcaba817dd2dafd7c22b73e", func := "loop.example/mixrelay/laws.FnViewSame", spec := "fnViewSame", unfollowed := true, recurses := true, apart := false }
def FnViewSameSaid : Prop := fnViewSameRow.holds Try.pinned (OpenSpec.ofChange fnViewSameSpec)

/-- ITS FALSE NEIGHBOUR: 'it returns false'. Refute it at one input. -/
def fnViewSameWrong : ChangeSpec := { name := "fnViewSame", fn := fun _ => fun
  | [d] => { results := [.lit (.bool false)], args := [d] }
  | _ => none }
def FnViewSameWrongFalsely : Prop := fnViewSameRow.holds Try.pinned (OpenSpec.ofChange fnViewSameWrong)

/-- 'laws.FnBatchFresh': WHATEVER THE INPUT: true; the input reads as it did. -/
def fnBatchFreshSpec : ChangeSpec := { name := "fnBatchFresh", fn := fun _ => fun
  | [d] => { results := [.lit (.bool true)], args := [d] }
  | _ => none }
def fnBatchFreshRow : OpenClaim := { program := "ytolifggjblfobaa", sum := "bfc448b9406da6bc3a798b74bd25213b0fdafbf4efcaba817dd2dafd7c22b73e", func := "loop.example/mixrelay/laws.FnBatchFresh", spec := "fnBatchFresh", unfollowed := true, recurses := true, apart := false }
def FnBatchFreshSaid : Prop := fnBatchFreshRow.holds Try.pinned (OpenSpec.ofChange fnBatchFreshSpec)

/-- ITS FALSE NEIGHBOUR: 'it returns false'. Refute it at one input. -/
def fnBatchFreshWrong : ChangeSpec := { name := "fnBatchFresh", fn := fun _ => fun
  | [d] => { results := [.lit (.bool false)], args := [d] }
  | _ => none }
def FnBatchFreshWrongFalsely : Prop := fnBatchFreshRow.holds Try.pinned (OpenSpec.ofChange fnBatchFreshWrong)

/-- 'laws.FnBatch': WHATEVER THE INPUT: true; the input reads as it did. -/
def fnBatchSpec : ChangeSpec := { name := "fnBatch", fn := fun _ => fun
  | [d] => { results := [.lit (.bool true)], args := [d] }
  | _ => none }
def fnBatchRow : OpenClaim := { program := "ytolifggjblfobaa", sum := "bfc448b9406da6bc3a798b74bd25213b0fdafbf4efcaba817dd2dafd7c22b73e", func := "loop.example/mixrelay/laws.FnBatch", spec := "fnBatch", unfollowed := true, recurses := true, apart := false }
def FnBatchSaid : Prop := fnBatchRow.holds Try.pinned (OpenSpec.ofChange fnBatchSpec)

/-- ITS FALSE NEIGHBOUR: 'it returns false'. Refute it at one input. -/
def fnBatchWrong : ChangeSpec := { name := "fnBatch", fn := fun _ => fun
  | [d] => { results := [.lit (.bool false)], args := [d] }
  | _ => none }
def FnBatchWrongFalsely : Prop := fnBatchRow.holds Try.pinned (OpenSpec.ofChange fnBatchWrong)

/-- 'laws.FnExactBatchFlows': WHATEVER THE INPUT: true; the input reads as it did. -/
def fnExactBatchFlowsSpec : ChangeSpec := { name := "fnExactBatchFlows", fn := fun _ => fun
  | [d1, d2, d3] => { results := [.lit (.bool true)], args := [d1, d2, d3] }
  | _ => none }
def fnExactBatchFlowsRow : OpenClaim := { program := "ytolifggjblfobaa", sum := "bfc448b9406da6bc3a798b74bd25213b0fdafbf4efcaba817dd2dafd7c22b73e", func := "loop.example/mixrelay/laws.FnExactBatchFlows", spec := "fnExactBatchFlows", unfollowed := true, recurses := true, apart := false }
def FnExactBatchFlowsSaid : Prop := fnExactBatchFlowsRow.holds Try.pinned (OpenSpec.ofChange fnExactBatchFlowsSpec)

/-- ITS FALSE NEIGHBOUR: 'it returns false'. Refute it at one input. -/
def fnExactBatchFlowsWrong : ChangeSpec := { name := "fnExactBatchFlows", fn := fun _ => fun
  | [d1, d2, d3] => { results := [.lit (.bool false)], args := [d1, d2, d3] }
  | _ => none }
def FnExactBatchFlowsWrongFalsely : Prop := fnExactBatchFlowsRow.holds Try.pinned (OpenSpec.ofChange fnExactBatchFlowsWrong)

/-- 'laws.FnBatchTwo': WHATEVER THE INPUT: true; the input reads as it did. -/
def fnBatchTwoSpec : ChangeSpec := { name := "fnBatchTwo", fn := fun _ => fun
  | [d] => { results := [.lit (.bool true)], args := [d] }
  | _ => none }
def fnBatchTwoRow : OpenClaim := { program := "ytolifggjblfobaa", sum := "bfc448b9406da6bc3a798b74bd25213b0fdafbf4efcaba817dd2dafd7c22b73e", func := "loop.example/mixrelay/laws.FnBatchTwo", spec := "fnBatchTwo", unfollowed := true, recurses := true, apart := false }
def FnBatchTwoSaid : Prop := fnBatchTwoRow.holds Try.pinned (OpenSpec.ofChange fnBatchTwoSpec)

/-- ITS FALSE NEIGHBOUR: 'it returns false'. Refute it at one input. -/
def fnBatchTwoWrong : ChangeSpec := { name := "fnBatchTwo", fn := fun _ => fun
  | [d] => { results := [.lit (.bool false)], args := [d] }
  | _ => none }
def FnBatchTwoWrongFalsely : Prop := fnBatchTwoRow.holds Try.pinned (OpenSpec.ofChange fnBatchTwoWrong)

/-- 'laws.FnBatchAlike': WHATEVER THE INPUT: true; the input reads as it did. -/
def fnBatchAlikeSpec : ChangeSpec := { name := "fnBatchAlike", fn := fun _ => fun
  | [d1, d2] => { results := [.lit (.bool true)], args := [d1, d2] }
  | _ => none }
def fnBatchAlikeRow : OpenClaim := { program := "ytolifggjblfobaa", sum := "bfc448b9406da6bc3a798b74bd25213b0fdafbf4efcaba817dd2dafd7c22b73e", func := "loop.example/mixrelay/laws.FnBatchAlike", spec := "fnBatchAlike", unfollowed := true, recurses := true, apart := false }
def FnBatchAlikeSaid : Prop := fnBatchAlikeRow.holds Try.pinned (OpenSpec.ofChange fnBatchAlikeSpec)

/-- ITS FALSE NEIGHBOUR: 'it returns false'. Refute it at one input. -/
def fnBatchAlikeWrong : ChangeSpec := { name := "fnBatchAlike", fn := fun _ => fun
  | [d1, d2] => { results := [.lit (.bool false)], args := [d1, d2] }
  | _ => none }
def FnBatchAlikeWrongFalsely : Prop := fnBatchAlikeRow.holds Try.pinned (OpenSpec.ofChange fnBatchAlikeWrong)

/-- 'laws.FnBatchName': WHATEVER THE INPUT: true; the input reads as it did. -/
def fnBatchNameSpec : ChangeSpec := { name := "fnBatchName", fn := fun _ => fun
  | [d1, d2] => { results := [.lit (.bool true)], args := [d1, d2] }
  | _ => none }
def fnBatchNameRow : OpenClaim := { program := "ytolifggjblfobaa", sum := "bfc448b9406da6bc3a798b74bd25213b0fdafbf4efcaba817dd2dafd7c22b73e", func := "loop.example/mixrelay/laws.FnBatchName", spec := "fnBatchName", unfollowed := true, recurses := true, apart := false }
def FnBatchNameSaid : Prop := fnBatchNameRow.holds Try.pinned (OpenSpec.ofChange fnBatchNameSpec)

/-- ITS FALSE NEIGHBOUR: 'it returns false'. Refute it at one input. -/
def fnBatchNameWrong : ChangeSpec := { name := "fnBatchName", fn := fun _ => fun
  | [d1, d2] => { results := [.lit (.bool false)], args := [d1, d2] }
  | _ => none }
def FnBatchNameWrongFalsely : Prop := fnBatchNameRow.holds Try.pinned (OpenSpec.ofChange fnBatchNameWrong)

/-- 'laws.FnBatchOther': WHATEVER THE INPUT: true; the input reads as it did. -/
def fnBatchOtherSpec : ChangeSpec := { name := "fnBatchOther", fn := fun _ => fun
  | [d1, d2] => { results := [.lit (.bool true)], args := [d1, d2] }
  | _ => none }
def fnBatchOtherRow : OpenClaim := { program := "ytolifggjblfobaa", sum := "bfc448b9406da6bc3a798b74bd25213b0fdafbf4efcaba817dd2dafd7c22b73e", func := "loop.example/mixrelay/laws.FnBatchOther", spec := "fnBatchOther", unfollowed := true, recurses := true, apart := false }
def FnBatchOtherSaid : Prop := fnBatchOtherRow.holds Try.pinned (OpenSpec.ofChange fnBatchOtherSpec)

/-- ITS FALSE NEIGHBOUR: 'it returns false'. Refute it at one input. -/
def fnBatchOtherWrong : ChangeSpec := { name := "fnBatchOther", fn := fun _ => fun
  | [d1, d2] => { results := [.lit (.bool false)], args := [d1, d2] }
  | _ => none }
def FnBatchOtherWrongFalsely : Prop := fnBatchOtherRow.holds Try.pinned (OpenSpec.ofChange fnBatchOtherWrong)

/- THE SECOND FORM. 'bulk': how many values and letters a reading holds, each counted each time it is reached (what is shared counts as often as it is met; a slice's spare places count too). A statement '..UptoSaid' is the law's where the arguments, and the package variables that the reading takes, are together of bulk at most 1048576: NARROWER than '..Said'. Prove '..Said' where nothing that the law and all that it calls make is longer than what came in: it says more and counts as full. Else prove '..UptoSaid'. A law counts once. -/
mutual
def uptoBulk {H : Type} : DataW H → Nat
  | .lit (.string bytes) => bytes.length + 1
  | .lit _ => 1
  | .nil => 1
  | .ptr d => uptoBulk d + 1
  | .slice elems spare => uptoBulkAll elems + uptoBulkAll spare + 1
  | .agg parts => uptoBulkAll parts + 1
  | .iface _ d => uptoBulk d + 1
  | .map entries => uptoBulkEntries entries + 1
  | .held _ => 1
def uptoBulkAll {H : Type} : List (DataW H) → Nat
  | [] => 0
  | d :: r => uptoBulk d + uptoBulkAll r
def uptoBulkEntries {H : Type} : List (Lit × DataW H) → Nat
  | [] => 0
  | x :: r => uptoBulkEntry x + uptoBulkEntries r
def uptoBulkEntry {H : Type} : Lit × DataW H → Nat
  | (.string bytes, d) => bytes.length + uptoBulk d + 1
  | (_, d) => uptoBulk d + 1
 end
def uptoSmall : (H : Type) → List (DataW H) → Bool := fun _ ds => decide (uptoBulkAll ds ≤ 1048576)
def OpenSpec.upto (s : _root_.Go.ChangeSpec) : _root_.Go.OpenSpec := { _root_.Go.OpenSpec.ofChange s with cond := some uptoSmall }

/-- 'laws.FnView', WHERE WHAT IT READS IS OF BULK AT MOST 1048576: true; the input reads as it did. -/
def fnViewUptoRow : OpenClaim := { program := "ytolifggjblfobaa", sum := "bfc448b9406da6bc3a798b74bd25213b0fdafbf4efcaba817dd2dafd7c22b73e", func := "loop.example/mixrelay/laws.FnView", spec := "fnView", unfollowed := true, recurses := true, apart := false, narrowed := true }
def FnViewUptoSaid : Prop := fnViewUptoRow.holds Try.pinned (OpenSpec.upto fnViewSpec)

/-- 'laws.FnViewKeeps', WHERE WHAT IT READS IS OF BULK AT MOST 1048576: true; the input reads as it did. -/
def fnViewKeepsUptoRow : OpenClaim := { program := "ytolifggjblfobaa", sum := "bfc448b9406da6bc3a798b74bd25213b0fdafbf4efcaba817dd2dafd7c22b73e", func := "loop.example/mixrelay/laws.FnViewKeeps", spec := "fnViewKeeps", unfollowed := true, recurses := true, apart := false, narrowed := true }
def FnViewKeepsUptoSaid : Prop := fnViewKeepsUptoRow.holds Try.pinned (OpenSpec.upto fnViewKeepsSpec)

/-- 'laws.FnViewPart', WHERE WHAT IT READS IS OF BULK AT MOST 1048576: true; the input reads as it did. -/
def fnViewPartUptoRow : OpenClaim := { program := "ytolifggjblfobaa", sum := "bfc448b9406da6bc3a798b74bd25213b0fdafbf4efcaba817dd2dafd7c22b73e", func := "loop.example/mixrelay/laws.FnViewPart", spec := "fnViewPart", unfollowed := true, recurses := true, apart := false, narrowed := true }
def FnViewPartUptoSaid : Prop := fnViewPartUptoRow.holds Try.pinned (OpenSpec.upto fnViewPartSpec)

/-- 'laws.FnViewRename', WHERE WHAT IT READS IS OF BULK AT MOST 1048576: true; the input reads as it did. -/
def fnViewRenameUptoRow : OpenClaim := { program := "ytolifggjblfobaa", sum := "bfc448b9406da6bc3a798b74bd25213b0fdafbf4efcaba817dd2dafd7c22b73e", func := "loop.example/mixrelay/laws.FnViewRename", spec := "fnViewRename", unfollowed := true, recurses := true, apart := false, narrowed := true }
def FnViewRenameUptoSaid : Prop := fnViewRenameUptoRow.holds Try.pinned (OpenSpec.upto fnViewRenameSpec)

/-- 'laws.FnViewTwice', WHERE WHAT IT READS IS OF BULK AT MOST 1048576: true; the input reads as it did. -/
def fnViewTwiceUptoRow : OpenClaim := { program := "ytolifggjblfobaa", sum := "bfc448b9406da6bc3a798b74bd25213b0fdafbf4efcaba817dd2dafd7c22b73e", func := "loop.example/mixrelay/laws.FnViewTwice", spec := "fnViewTwice", unfollowed := true, recurses := true, apart := false, narrowed := true }
def FnViewTwiceUptoSaid : Prop := fnViewTwiceUptoRow.holds Try.pinned (OpenSpec.upto fnViewTwiceSpec)

/-- 'laws.FnExactViewSame', WHERE WHAT IT READS IS OF BULK AT MOST 1048576: true; the input reads as it did. -/
def fnExactViewSameUptoRow : OpenClaim := { program := "ytolifggjblfobaa", sum := "bfc448b9406da6bc3a798b74bd25213b0fdafbf4efcaba817dd2dafd7c22b73e", func := "loop.example/mixrelay/laws.FnExactViewSame", spec := "fnExactViewSame", unfollowed := true, recurses := true, apart := false, narrowed := true }
def FnExactViewSameUptoSaid : Prop := fnExactViewSameUptoRow.holds Try.pinned (OpenSpec.upto fnExactViewSameSpec)

/-- 'laws.FnExactViewOf', WHERE WHAT IT READS IS OF BULK AT MOST 1048576: true; the input reads as it did. -/
def fnExactViewOfUptoRow : OpenClaim := { program := "ytolifggjblfobaa", sum := "bfc448b9406da6bc3a798b74bd25213b0fdafbf4efcaba817dd2dafd7c22b73e", func := "loop.example/mixrelay/laws.FnExactViewOf", spec := "fnExactViewOf", unfollowed := true, recurses := true, apart := false, narrowed := true }
def FnExactViewOfUptoSaid : Prop := fnExactViewOfUptoRow.holds Try.pinned (OpenSpec.upto fnExactViewOfSpec)

/-- 'laws.FnViewSame', WHERE WHAT IT READS IS OF BULK AT MOST 1048576: true; the input reads as it did. -/
def fnViewSameUptoRow : OpenClaim := { program := "ytolifggjblfobaa", sum := "bfc448b9406da6bc3a798b74bd25213b0fdafbf4efcaba817dd2dafd7c22b73e", func := "loop.example/mixrelay/laws.FnViewSame", spec := "fnViewSame", unfollowed := true, recurses := true, apart := false, narrowed := true }
def FnViewSameUptoSaid : Prop := fnViewSameUptoRow.holds Try.pinned (OpenSpec.upto fnViewSameSpec)

/-- 'laws.FnBatchFresh', WHERE WHAT IT READS IS OF BULK AT MOST 1048576: true; the input reads as it did. -/
def fnBatchFreshUptoRow : OpenClaim := { program := "ytolifggjblfobaa", sum := "bfc448b9406da6bc3a798b74bd25213b0fdafbf4efcaba817dd2dafd7c22b73e", func := "loop.example/mixrelay/laws.FnBatchFresh", spec := "fnBatchFresh", unfollowed := true, recurses := true, apart := false, narrowed := true }
def FnBatchFreshUptoSaid : Prop := fnBatchFreshUptoRow.holds Try.pinned (OpenSpec.upto fnBatchFreshSpec)

/-- 'laws.FnBatch', WHERE WHAT IT READS IS OF BULK AT MOST 1048576: true; the input reads as it did. -/
def fnBatchUptoRow : OpenClaim := { program := "ytolifggjblfobaa", sum := "bfc448b9406da6bc3a798b74bd25213b0fdafbf4efcaba817dd2dafd7c22b73e", func := "loop.example/mixrelay/laws.FnBatch", spec := "fnBatch", unfollowed := true, recurses := true, apart := false, narrowed := true }
def FnBatchUptoSaid : Prop := fnBatchUptoRow.holds Try.pinned (OpenSpec.upto fnBatchSpec)

/-- 'laws.FnExactBatchFlows', WHERE WHAT IT READS IS OF BULK AT MOST 1048576: true; the input reads as it did. -/
def fnExactBatchFlowsUptoRow : OpenClaim := { program := "ytolifggjblfobaa", sum := "bfc448b9406da6bc3a798b74bd25213b0fdafbf4efcaba817dd2dafd7c22b73e", func := "loop.example/mixrelay/laws.FnExactBatchFlows", spec := "fnExactBatchFlows", unfollowed := true, recurses := true, apart := false, narrowed := true }
def FnExactBatchFlowsUptoSaid : Prop := fnExactBatchFlowsUptoRow.holds Try.pinned (OpenSpec.upto fnExactBatchFlowsSpec)

/-- 'laws.FnBatchTwo', WHERE WHAT IT READS IS OF BULK AT MOST 1048576: true; the input reads as it did. -/
def fnBatchTwoUptoRow : OpenClaim := { program := "ytolifggjblfobaa", sum := "bfc448b9406da6bc3a798b74bd25213b0fdafbf4efcaba817dd2dafd7c22b73e", func := "loop.example/mixrelay/laws.FnBatchTwo", spec := "fnBatchTwo", unfollowed := true, recurses := true, apart := false, narrowed := true }
def FnBatchTwoUptoSaid : Prop := fnBatchTwoUptoRow.holds Try.pinned (OpenSpec.upto fnBatchTwoSpec)

/-- 'laws.FnBatchAlike', WHERE WHAT IT READS IS OF BULK AT MOST 1048576: true; the input reads as it did. -/
def fnBatchAlikeUptoRow : OpenClaim := { program := "ytolifggjblfobaa", sum := "bfc448b9406da6bc3a798b74bd25213b0fdafbf4efcaba817dd2dafd7c22b73e", func := "loop.example/mixrelay/laws.FnBatchAlike", spec := "fnBatchAlike", unfollowed := true, recurses := true, apart := false, narrowed := true }
def FnBatchAlikeUptoSaid : Prop := fnBatchAlikeUptoRow.holds Try.pinned (OpenSpec.upto fnBatchAlikeSpec)

/-- 'laws.FnBatchName', WHERE WHAT IT READS IS OF BULK AT MOST 1048576: true; the input reads as it did. -/
def fnBatchNameUptoRow : OpenClaim := { program := "ytolifggjblfobaa", sum := "bfc448b9406da6bc3a798b74bd25213b0fdafbf4efcaba817dd2dafd7c22b73e", func := "loop.example/mixrelay/laws.FnBatchName", spec := "fnBatchName", unfollowed := true, recurses := true, apart := false, narrowed := true }
def FnBatchNameUptoSaid : Prop := fnBatchNameUptoRow.holds Try.pinned (OpenSpec.upto fnBatchNameSpec)

/-- 'laws.FnBatchOther', WHERE WHAT IT READS IS OF BULK AT MOST 1048576: true; the input reads as it did. -/
def fnBatchOtherUptoRow : OpenClaim := { program := "ytolifggjblfobaa", sum := "bfc448b9406da6bc3a798b74bd25213b0fdafbf4efcaba817dd2dafd7c22b73e", func := "loop.example/mixrelay/laws.FnBatchOther", spec := "fnBatchOther", unfollowed := true, recurses := true, apart := false, narrowed := true }
def FnBatchOtherUptoSaid : Prop := fnBatchOtherUptoRow.holds Try.pinned (OpenSpec.upto fnBatchOtherSpec)

end Rows
end Go.Proofs.Ytolifggjblfobaa
