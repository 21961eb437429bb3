/-
  No cell of these rows narrows 'for every input' (looked for: loops, veiled, ifaces, maps, wideKeys, modest, calm, conditions, laid).
  DERIVED. THE GIVEN ROWS OF THIS SEAT. 7 by the template 'for every input the law returns true; each argument reads behind the call as it read before'; 0 by the template 'total and deterministic' (their statements: YtilgcfgbfhmdcaaTotals.lean).
  GIVEN WITH THE SEED: the statements are not yours to turn. If you find one false, say at which input.
  Laid BY PROGRAM, IN A SANDBOX (cutbox-rows.mjs): the forced cells as the released guide's own fill.sh prints them over the translation 7029be00653a8a90… (all of the seat's roots in one cut). By AI agents, Wed Nov 11 2026. No macro, syntax, notation, axiom, sorry.
-/
import Derived.Test.YtilgcfgbfhmdcaaChecked
import GoSem.Claim
import GoSem.ClaimJoined
import GoSem.ClaimMapViews
import Derived.JoinedTies
import Derived.KernelRfl
namespace Go.Proofs.Ytilgcfgbfhmdcaa
/- THE CELL 'sum', in the pinned program and in every row, IS THE sha256 OF THE DUMP (.gsa) THAT YtilgcfgbfhmdcaaProg.lean LOADS. Nothing in Lean hashes anything: it is a label: what it is worth is what the hold of that sum in a sandbox is worth. -/
noncomputable def Try.pinned : Pinned := { name := "ytilgcfgbfhmdcaa", sum := "7029be00653a8a90d68094057a1a80bea7a6fd5be38551b41317b8ee4b55f32b", checked := Try.checked }
namespace Rows
def none {H : Type} : Left H := { results := [], args := [] }

/-- 'laws.FnExactAssignValid': WHATEVER THE INPUT: true; the input reads as it did. -/
def fnExactAssignValidSpec : ChangeSpec := { name := "fnExactAssignValid", fn := fun _ => fun
  | [d] => { results := [.lit (.bool true)], args := [d] }
  | _ => none }
def fnExactAssignValidRow : OpenClaim := { program := "ytilgcfgbfhmdcaa", sum := "7029be00653a8a90d68094057a1a80bea7a6fd5be38551b41317b8ee4b55f32b", func := "loop.example/mixrelay/laws.FnExactAssignValid", spec := "fnExactAssignValid", apart := false }
def FnExactAssignValidSaid : Prop := fnExactAssignValidRow.holds Try.pinned (OpenSpec.ofChange fnExactAssignValidSpec)

/-- ITS FALSE NEIGHBOUR: 'it returns false'. Refute it at one input. -/
def fnExactAssignValidWrong : ChangeSpec := { name := "fnExactAssignValid", fn := fun _ => fun
  | [d] => { results := [.lit (.bool false)], args := [d] }
  | _ => none }
def FnExactAssignValidWrongFalsely : Prop := fnExactAssignValidRow.holds Try.pinned (OpenSpec.ofChange fnExactAssignValidWrong)

/-- 'laws.FnCount': WHATEVER THE INPUT: true; the input reads as it did. -/
def fnCountSpec : ChangeSpec := { name := "fnCount", fn := fun _ => fun
  | [d] => { results := [.lit (.bool true)], args := [d] }
  | _ => none }
def fnCountRow : OpenClaim := { program := "ytilgcfgbfhmdcaa", sum := "7029be00653a8a90d68094057a1a80bea7a6fd5be38551b41317b8ee4b55f32b", func := "loop.example/mixrelay/laws.FnCount", spec := "fnCount", recurses := true, apart := false }
def FnCountSaid : Prop := fnCountRow.holds Try.pinned (OpenSpec.ofChange fnCountSpec)

/-- ITS FALSE NEIGHBOUR: 'it returns false'. Refute it at one input. -/
def fnCountWrong : ChangeSpec := { name := "fnCount", fn := fun _ => fun
  | [d] => { results := [.lit (.bool false)], args := [d] }
  | _ => none }
def FnCountWrongFalsely : Prop := fnCountRow.holds Try.pinned (OpenSpec.ofChange fnCountWrong)

/-- 'laws.FnCountLess': WHATEVER THE INPUT: true; the input reads as it did. -/
def fnCountLessSpec : ChangeSpec := { name := "fnCountLess", fn := fun _ => fun
  | [d1, d2] => { results := [.lit (.bool true)], args := [d1, d2] }
  | _ => none }
def fnCountLessRow : OpenClaim := { program := "ytilgcfgbfhmdcaa", sum := "7029be00653a8a90d68094057a1a80bea7a6fd5be38551b41317b8ee4b55f32b", func := "loop.example/mixrelay/laws.FnCountLess", spec := "fnCountLess", recurses := true, apart := false }
def FnCountLessSaid : Prop := fnCountLessRow.holds Try.pinned (OpenSpec.ofChange fnCountLessSpec)

/-- ITS FALSE NEIGHBOUR: 'it returns false'. Refute it at one input. -/
def fnCountLessWrong : ChangeSpec := { name := "fnCountLess", fn := fun _ => fun
  | [d1, d2] => { results := [.lit (.bool false)], args := [d1, d2] }
  | _ => none }
def FnCountLessWrongFalsely : Prop := fnCountLessRow.holds Try.pinned (OpenSpec.ofChange fnCountLessWrong)

/-- 'laws.FnCountOne': WHATEVER THE INPUT: true; the input reads as it did. -/
def fnCountOneSpec : ChangeSpec := { name := "fnCountOne", fn := fun _ => fun
  | [d] => { results := [.lit (.bool true)], args := [d] }
  | _ => none }
def fnCountOneRow : OpenClaim := { program := "ytilgcfgbfhmdcaa", sum := "7029be00653a8a90d68094057a1a80bea7a6fd5be38551b41317b8ee4b55f32b", func := "loop.example/mixrelay/laws.FnCountOne", spec := "fnCountOne", recurses := true, apart := false }
def FnCountOneSaid : Prop := fnCountOneRow.holds Try.pinned (OpenSpec.ofChange fnCountOneSpec)

/-- ITS FALSE NEIGHBOUR: 'it returns false'. Refute it at one input. -/
def fnCountOneWrong : ChangeSpec := { name := "fnCountOne", fn := fun _ => fun
  | [d] => { results := [.lit (.bool false)], args := [d] }
  | _ => none }
def FnCountOneWrongFalsely : Prop := fnCountOneRow.holds Try.pinned (OpenSpec.ofChange fnCountOneWrong)

/-- 'laws.FnCountParts': WHATEVER THE INPUT: true; the input reads as it did. -/
def fnCountPartsSpec : ChangeSpec := { name := "fnCountParts", fn := fun _ => fun
  | [d1, d2] => { results := [.lit (.bool true)], args := [d1, d2] }
  | _ => none }
def fnCountPartsRow : OpenClaim := { program := "ytilgcfgbfhmdcaa", sum := "7029be00653a8a90d68094057a1a80bea7a6fd5be38551b41317b8ee4b55f32b", func := "loop.example/mixrelay/laws.FnCountParts", spec := "fnCountParts", recurses := true, apart := false }
def FnCountPartsSaid : Prop := fnCountPartsRow.holds Try.pinned (OpenSpec.ofChange fnCountPartsSpec)

/-- ITS FALSE NEIGHBOUR: 'it returns false'. Refute it at one input. -/
def fnCountPartsWrong : ChangeSpec := { name := "fnCountParts", fn := fun _ => fun
  | [d1, d2] => { results := [.lit (.bool false)], args := [d1, d2] }
  | _ => none }
def FnCountPartsWrongFalsely : Prop := fnCountPartsRow.holds Try.pinned (OpenSpec.ofChange fnCountPartsWrong)

/-- 'laws.FnCountTurn': WHATEVER THE INPUT: true; the input reads as it did. -/
def fnCountTurnSpec : ChangeSpec := { name := "fnCountTurn", fn := fun _ => fun
  | [d] => { results := [.lit (.bool true)], args := [d] }
  | _ => none }
def fnCountTurnRow : OpenClaim := { program := "ytilgcfgbfhmdcaa", sum := "7029be00653a8a90d68094057a1a80bea7a6fd5be38551b41317b8ee4b55f32b", func := "loop.example/mixrelay/laws.FnCountTurn", spec := "fnCountTurn", recurses := true, apart := false }
def FnCountTurnSaid : Prop := fnCountTurnRow.holds Try.pinned (OpenSpec.ofChange fnCountTurnSpec)

/-- ITS FALSE NEIGHBOUR: 'it returns false'. Refute it at one input. -/
def fnCountTurnWrong : ChangeSpec := { name := "fnCountTurn", fn := fun _ => fun
  | [d] => { results := [.lit (.bool false)], args := [d] }
  | _ => none }
def FnCountTurnWrongFalsely : Prop := fnCountTurnRow.holds Try.pinned (OpenSpec.ofChange fnCountTurnWrong)

/-- 'laws.FnExactAssignCount': WHATEVER THE INPUT: true; the input reads as it did. -/
def fnExactAssignCountSpec : ChangeSpec := { name := "fnExactAssignCount", fn := fun _ => fun
  | [d] => { results := [.lit (.bool true)], args := [d] }
  | _ => none }
def fnExactAssignCountRow : OpenClaim := { program := "ytilgcfgbfhmdcaa", sum := "7029be00653a8a90d68094057a1a80bea7a6fd5be38551b41317b8ee4b55f32b", func := "loop.example/mixrelay/laws.FnExactAssignCount", spec := "fnExactAssignCount", recurses := true, apart := false }
def FnExactAssignCountSaid : Prop := fnExactAssignCountRow.holds Try.pinned (OpenSpec.ofChange fnExactAssignCountSpec)

/-- ITS FALSE NEIGHBOUR: 'it returns false'. Refute it at one input. -/
def fnExactAssignCountWrong : ChangeSpec := { name := "fnExactAssignCount", fn := fun _ => fun
  | [d] => { results := [.lit (.bool false)], args := [d] }
  | _ => none }
def FnExactAssignCountWrongFalsely : Prop := fnExactAssignCountRow.holds Try.pinned (OpenSpec.ofChange fnExactAssignCountWrong)

/- THE SECOND FORM. 'bulk': how many values and letters a reading holds, each counted each time it is reached (what is shared counts as often as it is met; a slice's spare places count too). A statement '..UptoSaid' is the law's where the arguments, and the package variables that the reading takes, are together of bulk at most 1048576: NARROWER than '..Said'. Prove '..Said' where nothing that the law and all that it calls make is longer than what came in: it says more and counts as full. Else prove '..UptoSaid'. A law counts once. -/
mutual
def uptoBulk {H : Type} : DataW H → Nat
  | .lit (.string bytes) => bytes.length + 1
  | .lit _ => 1
  | .nil => 1
  | .ptr d => uptoBulk d + 1
  | .slice elems spare => uptoBulkAll elems + uptoBulkAll spare + 1
  | .agg parts => uptoBulkAll parts + 1
  | .iface _ d => uptoBulk d + 1
  | .map entries => uptoBulkEntries entries + 1
  | .held _ => 1
def uptoBulkAll {H : Type} : List (DataW H) → Nat
  | [] => 0
  | d :: r => uptoBulk d + uptoBulkAll r
def uptoBulkEntries {H : Type} : List (Lit × DataW H) → Nat
  | [] => 0
  | x :: r => uptoBulkEntry x + uptoBulkEntries r
def uptoBulkEntry {H : Type} : Lit × DataW H → Nat
  | (.string bytes, d) => bytes.length + uptoBulk d + 1
  | (_, d) => uptoBulk d + 1
 end
def uptoSmall : (H : Type) → List (DataW H) → Bool := fun _ ds => decide (uptoBulkAll ds ≤ 1048576)
def OpenSpec.upto (s : _root_.Go.ChangeSpec) : _root_.Go.OpenSpec := { _root_.Go.OpenSpec.ofChange s with cond := some uptoSmall }

/-- 'laws.FnExactAssignValid', WHERE WHAT IT READS IS OF BULK AT MOST 1048576: true; the input reads as it did. -/
def fnExactAssignValidUptoRow : OpenClaim := { program := "ytilgcfgbfhmdcaa", sum := "7029be00653a8a90d68094057a1a80bea7a6fd5be38551b41317b8ee4b55f32b", func := "loop.example/mixrelay/laws.FnExactAssignValid", spec := "fnExactAssignValid", apart := false, narrowed := true }
def FnExactAssignValidUptoSaid : Prop := fnExactAssignValidUptoRow.holds Try.pinned (OpenSpec.upto fnExactAssignValidSpec)

/-- 'laws.FnCount', WHERE WHAT IT READS IS OF BULK AT MOST 1048576: true; the input reads as it did. -/
def fnCountUptoRow : OpenClaim := { program := "ytilgcfgbfhmdcaa", sum := "7029be00653a8a90d68094057a1a80bea7a6fd5be38551b41317b8ee4b55f32b", func := "loop.example/mixrelay/laws.FnCount", spec := "fnCount", recurses := true, apart := false, narrowed := true }
def FnCountUptoSaid : Prop := fnCountUptoRow.holds Try.pinned (OpenSpec.upto fnCountSpec)

/-- 'laws.FnCountLess', WHERE WHAT IT READS IS OF BULK AT MOST 1048576: true; the input reads as it did. -/
def fnCountLessUptoRow : OpenClaim := { program := "ytilgcfgbfhmdcaa", sum := "7029be00653a8a90d68094057a1a80bea7a6fd5be38551b41317b8ee4b55f32b", func := "loop.example/mixrelay/laws.FnCountLess", spec := "fnCountLess", recurses := true, apart := false, narrowed := true }
def FnCountLessUptoSaid : Prop := fnCountLessUptoRow.holds Try.pinned (OpenSpec.upto fnCountLessSpec)

/-- 'laws.FnCountOne', WHERE WHAT IT READS IS OF BULK AT MOST 1048576: true; the input reads as it did. -/
def fnCountOneUptoRow : OpenClaim := { program := "ytilgcfgbfhmdcaa", sum := "7029be00653a8a90d68094057a1a80bea7a6fd5be38551b41317b8ee4b55f32b", func := "loop.example/mixrelay/laws.FnCountOne", spec := "fnCountOne", recurses := true, apart := false, narrowed := true }
def FnCountOneUptoSaid : Prop := fnCountOneUptoRow.holds Try.pinned (OpenSpec.upto fnCountOneSpec)

/-- 'laws.FnCountParts', WHERE WHAT IT READS IS OF BULK AT MOST 1048576: true; the input reads as it did. -/
def fnCountPartsUptoRow : OpenClaim := { program := "ytilgcfgbfhmdcaa", sum := "7029be00653a8a90d68094057a1a80bea7a6fd5be38551b41317b8ee4b55f32b", func := "loop.example/mixrelay/laws.FnCountParts", spec := "fnCountParts", recurses := true, apart := false, narrowed := true }
def FnCountPartsUptoSaid : Prop := fnCountPartsUptoRow.holds Try.pinned (OpenSpec.upto fnCountPartsSpec)

/-- 'laws.FnCountTurn', WHERE WHAT IT READS IS OF BULK AT MOST 1048576: true; the input reads as it did. -/
def fnCountTurnUptoRow : OpenClaim := { program := "ytilgcfgbfhmdcaa", sum := "7029be00653a8a90d68094057a1a80bea7a6fd5be38551b41317b8ee4b55f32b", func := "loop.example/mixrelay/laws.FnCountTurn", spec := "fnCountTurn", recurses := true, apart := false, narrowed := true }
def FnCountTurnUptoSaid : Prop := fnCountTurnUptoRow.holds Try.pinned (OpenSpec.upto fnCountTurnSpec)

/-- 'laws.FnExactAssignCount', WHERE WHAT IT READS IS OF BULK AT MOST 1048576: true; the input reads as it did. -/
def fnExactAssignCountUptoRow : OpenClaim := { program := "ytilgcfgbfhmdcaa", sum := "7029be00653a8a90d68094057a1a80bea7a6fd5be38551b41317b8ee4b55f32b", func := "loop.example/mixrelay/laws.FnExactAssignCount", spec := "fnExactAssignCount", recurses := true, apart := false, narrowed := true }
def FnExactAssignCountUptoSaid : Prop := fnExactAssignCountUptoRow.holds Try.pinned (OpenSpec.upto fnExactAssignCountSpec)

end Rows
end Go.Proofs.Ytilgcfgbfhmdcaa
