/-
  NARROWER THAN 'FOR EVERY INPUT', by the rows' own cells (each row's printed sentence says how): FnAuditSpend: ifaces, laid · FnExactTicketSpend: ifaces, laid · FnSpendOrder: ifaces, laid · FnSpendTwice: ifaces, laid · FnSpend: ifaces, laid · FnSpendRefused: ifaces, laid · FnAuditSelf: ifaces, laid.
  DERIVED. THE GIVEN ROWS OF THIS SEAT. 7 by the template 'for every input the law returns true; each argument reads behind the call as it read before'; 0 by the template 'total and deterministic' (their statements: YtppkbmlbggokkaaDoorTotals.lean).
  GIVEN WITH THE SEED: the statements are not yours to turn. If you find one false, say at which input.
  Laid BY PROGRAM, IN A SANDBOX (cutbox-rows.mjs): the forced cells as the released guide's own fill.sh prints them over the translation 424709c53972cb88… (all of the seat's roots in one cut). By AI agents, Wed Nov 11 2026. No macro, syntax, notation, axiom, sorry.
-/
import Derived.Test.YtppkbmlbggokkaaDoorChecked
import GoSem.Claim
import GoSem.ClaimJoined
import GoSem.ClaimMapViews
import Derived.JoinedTies
import Derived.KernelRfl
namespace Go.Proofs.YtppkbmlbggokkaaDoor
/- THE CELL 'sum', in the pinned program and in every row, IS THE sha256 OF THE DUMP (.gsa) THAT YtppkbmlbggokkaaDoorProg.lean LOADS. Nothing in Lean hashes anything: it is a label: what it is worth is what the hold of that sum in a sandbox is worth. -/
noncomputable def Tryd.pinned : Pinned := { name := "ytppkbmlbggokkaadoor", sum := "424709c53972cb886f08d325015028e147dd0219c62a584f07b9481cec7767bc", checked := Tryd.checked }
namespace Rows
def none {H : Type} : Left H := { results := [], args := [] }

/- WHAT THE LISTED PACKAGE-LEVEL VARIABLES READ AS WHEN THE CALL BEGINS. Each datum BY PROGRAM (the guide's laid-datum.mjs) off the statement by which the dump's own 'gosem.cut.vars' lays the variable. In a bare row this is a premise. The card (YtppkbmlbggokkaaDoorCards.lean) ties it to the program's text. -/
def laid_loop_example_mixrelay_impl_errRefused {H : Type} : DataW H := .iface "*errors.errorString" (.ptr (.agg [.lit (.string [114, 101, 102, 117, 115, 101, 100])]))

/-- 'laws.FnAuditSpend': WHATEVER THE INPUT: true; the input reads as it did. -/
def fnAuditSpendSpec : ChangeSpec := { name := "fnAuditSpend", vars := ["loop.example/mixrelay/impl.errRefused"], fn := fun _ => fun
  | [d1, d2, g1] => { results := [.lit (.bool true)], args := [d1, d2], vars := [g1] }
  | _ => none }
def fnAuditSpendRow : OpenClaim := { program := "ytppkbmlbggokkaadoor", sum := "424709c53972cb886f08d325015028e147dd0219c62a584f07b9481cec7767bc", func := "loop.example/mixrelay/laws.FnAuditSpend", spec := "fnAuditSpend", inPlace := ["slices.overlaps[int]", "internal/reflectlite.TypeOf"], unfollowed := true, recurses := true, named := ["loop.example/mixrelay/impl.errRefused"], ifaces := true, apart := false, laid := [("loop.example/mixrelay/impl.errRefused", laid_loop_example_mixrelay_impl_errRefused)] }
def FnAuditSpendSaid : Prop := fnAuditSpendRow.holds Tryd.pinned (OpenSpec.ofChange fnAuditSpendSpec)

/-- ITS FALSE NEIGHBOUR: 'it returns false'. Refute it at one input. -/
def fnAuditSpendWrong : ChangeSpec := { name := "fnAuditSpend", vars := ["loop.example/mixrelay/impl.errRefused"], fn := fun _ => fun
  | [d1, d2, g1] => { results := [.lit (.bool false)], args := [d1, d2], vars := [g1] }
  | _ => none }
def FnAuditSpendWrongFalsely : Prop := fnAuditSpendRow.holds Tryd.pinned (OpenSpec.ofChange fnAuditSpendWrong)

/-- 'laws.FnExactTicketSpend': WHATEVER THE INPUT: true; the input reads as it did. -/
def fnExactTicketSpendSpec : ChangeSpec := { name := "fnExactTicketSpend", vars := ["loop.example/mixrelay/impl.errRefused"], fn := fun _ => fun
  | [d1, d2, d3, g1] => { results := [.lit (.bool true)], args := [d1, d2, d3], vars := [g1] }
  | _ => none }
def fnExactTicketSpendRow : OpenClaim := { program := "ytppkbmlbggokkaadoor", sum := "424709c53972cb886f08d325015028e147dd0219c62a584f07b9481cec7767bc", func := "loop.example/mixrelay/laws.FnExactTicketSpend", spec := "fnExactTicketSpend", inPlace := ["slices.overlaps[int]", "internal/reflectlite.TypeOf"], unfollowed := true, recurses := true, named := ["loop.example/mixrelay/impl.errRefused"], ifaces := true, apart := false, laid := [("loop.example/mixrelay/impl.errRefused", laid_loop_example_mixrelay_impl_errRefused)] }
def FnExactTicketSpendSaid : Prop := fnExactTicketSpendRow.holds Tryd.pinned (OpenSpec.ofChange fnExactTicketSpendSpec)

/-- ITS FALSE NEIGHBOUR: 'it returns false'. Refute it at one input. -/
def fnExactTicketSpendWrong : ChangeSpec := { name := "fnExactTicketSpend", vars := ["loop.example/mixrelay/impl.errRefused"], fn := fun _ => fun
  | [d1, d2, d3, g1] => { results := [.lit (.bool false)], args := [d1, d2, d3], vars := [g1] }
  | _ => none }
def FnExactTicketSpendWrongFalsely : Prop := fnExactTicketSpendRow.holds Tryd.pinned (OpenSpec.ofChange fnExactTicketSpendWrong)

/-- 'laws.FnSpendOrder': WHATEVER THE INPUT: true; the input reads as it did. -/
def fnSpendOrderSpec : ChangeSpec := { name := "fnSpendOrder", vars := ["loop.example/mixrelay/impl.errRefused"], fn := fun _ => fun
  | [d1, d2, g1] => { results := [.lit (.bool true)], args := [d1, d2], vars := [g1] }
  | _ => none }
def fnSpendOrderRow : OpenClaim := { program := "ytppkbmlbggokkaadoor", sum := "424709c53972cb886f08d325015028e147dd0219c62a584f07b9481cec7767bc", func := "loop.example/mixrelay/laws.FnSpendOrder", spec := "fnSpendOrder", inPlace := ["slices.overlaps[int]", "internal/reflectlite.TypeOf"], unfollowed := true, recurses := true, named := ["loop.example/mixrelay/impl.errRefused"], ifaces := true, apart := false, laid := [("loop.example/mixrelay/impl.errRefused", laid_loop_example_mixrelay_impl_errRefused)] }
def FnSpendOrderSaid : Prop := fnSpendOrderRow.holds Tryd.pinned (OpenSpec.ofChange fnSpendOrderSpec)

/-- ITS FALSE NEIGHBOUR: 'it returns false'. Refute it at one input. -/
def fnSpendOrderWrong : ChangeSpec := { name := "fnSpendOrder", vars := ["loop.example/mixrelay/impl.errRefused"], fn := fun _ => fun
  | [d1, d2, g1] => { results := [.lit (.bool false)], args := [d1, d2], vars := [g1] }
  | _ => none }
def FnSpendOrderWrongFalsely : Prop := fnSpendOrderRow.holds Tryd.pinned (OpenSpec.ofChange fnSpendOrderWrong)

/-- 'laws.FnSpendTwice': WHATEVER THE INPUT: true; the input reads as it did. -/
def fnSpendTwiceSpec : ChangeSpec := { name := "fnSpendTwice", vars := ["loop.example/mixrelay/impl.errRefused"], fn := fun _ => fun
  | [d, g1] => { results := [.lit (.bool true)], args := [d], vars := [g1] }
  | _ => none }
def fnSpendTwiceRow : OpenClaim := { program := "ytppkbmlbggokkaadoor", sum := "424709c53972cb886f08d325015028e147dd0219c62a584f07b9481cec7767bc", func := "loop.example/mixrelay/laws.FnSpendTwice", spec := "fnSpendTwice", inPlace := ["slices.overlaps[int]", "internal/reflectlite.TypeOf"], unfollowed := true, recurses := true, named := ["loop.example/mixrelay/impl.errRefused"], ifaces := true, apart := false, laid := [("loop.example/mixrelay/impl.errRefused", laid_loop_example_mixrelay_impl_errRefused)] }
def FnSpendTwiceSaid : Prop := fnSpendTwiceRow.holds Tryd.pinned (OpenSpec.ofChange fnSpendTwiceSpec)

/-- ITS FALSE NEIGHBOUR: 'it returns false'. Refute it at one input. -/
def fnSpendTwiceWrong : ChangeSpec := { name := "fnSpendTwice", vars := ["loop.example/mixrelay/impl.errRefused"], fn := fun _ => fun
  | [d, g1] => { results := [.lit (.bool false)], args := [d], vars := [g1] }
  | _ => none }
def FnSpendTwiceWrongFalsely : Prop := fnSpendTwiceRow.holds Tryd.pinned (OpenSpec.ofChange fnSpendTwiceWrong)

/-- 'laws.FnSpend': WHATEVER THE INPUT: true; the input reads as it did. -/
def fnSpendSpec : ChangeSpec := { name := "fnSpend", vars := ["loop.example/mixrelay/impl.errRefused"], fn := fun _ => fun
  | [d, g1] => { results := [.lit (.bool true)], args := [d], vars := [g1] }
  | _ => none }
def fnSpendRow : OpenClaim := { program := "ytppkbmlbggokkaadoor", sum := "424709c53972cb886f08d325015028e147dd0219c62a584f07b9481cec7767bc", func := "loop.example/mixrelay/laws.FnSpend", spec := "fnSpend", inPlace := ["slices.overlaps[int]", "internal/reflectlite.TypeOf"], unfollowed := true, recurses := true, named := ["loop.example/mixrelay/impl.errRefused"], ifaces := true, apart := false, laid := [("loop.example/mixrelay/impl.errRefused", laid_loop_example_mixrelay_impl_errRefused)] }
def FnSpendSaid : Prop := fnSpendRow.holds Tryd.pinned (OpenSpec.ofChange fnSpendSpec)

/-- ITS FALSE NEIGHBOUR: 'it returns false'. Refute it at one input. -/
def fnSpendWrong : ChangeSpec := { name := "fnSpend", vars := ["loop.example/mixrelay/impl.errRefused"], fn := fun _ => fun
  | [d, g1] => { results := [.lit (.bool false)], args := [d], vars := [g1] }
  | _ => none }
def FnSpendWrongFalsely : Prop := fnSpendRow.holds Tryd.pinned (OpenSpec.ofChange fnSpendWrong)

/-- 'laws.FnSpendRefused': WHATEVER THE INPUT: true; the input reads as it did. -/
def fnSpendRefusedSpec : ChangeSpec := { name := "fnSpendRefused", vars := ["loop.example/mixrelay/impl.errRefused"], fn := fun _ => fun
  | [d, g1] => { results := [.lit (.bool true)], args := [d], vars := [g1] }
  | _ => none }
def fnSpendRefusedRow : OpenClaim := { program := "ytppkbmlbggokkaadoor", sum := "424709c53972cb886f08d325015028e147dd0219c62a584f07b9481cec7767bc", func := "loop.example/mixrelay/laws.FnSpendRefused", spec := "fnSpendRefused", inPlace := ["slices.overlaps[int]", "internal/reflectlite.TypeOf"], unfollowed := true, recurses := true, named := ["loop.example/mixrelay/impl.errRefused"], ifaces := true, apart := false, laid := [("loop.example/mixrelay/impl.errRefused", laid_loop_example_mixrelay_impl_errRefused)] }
def FnSpendRefusedSaid : Prop := fnSpendRefusedRow.holds Tryd.pinned (OpenSpec.ofChange fnSpendRefusedSpec)

/-- ITS FALSE NEIGHBOUR: 'it returns false'. Refute it at one input. -/
def fnSpendRefusedWrong : ChangeSpec := { name := "fnSpendRefused", vars := ["loop.example/mixrelay/impl.errRefused"], fn := fun _ => fun
  | [d, g1] => { results := [.lit (.bool false)], args := [d], vars := [g1] }
  | _ => none }
def FnSpendRefusedWrongFalsely : Prop := fnSpendRefusedRow.holds Tryd.pinned (OpenSpec.ofChange fnSpendRefusedWrong)

/-- 'laws.FnAuditSelf': WHATEVER THE INPUT: true; the input reads as it did. -/
def fnAuditSelfSpec : ChangeSpec := { name := "fnAuditSelf", vars := ["loop.example/mixrelay/impl.errRefused"], fn := fun _ => fun
  | [d, g1] => { results := [.lit (.bool true)], args := [d], vars := [g1] }
  | _ => none }
def fnAuditSelfRow : OpenClaim := { program := "ytppkbmlbggokkaadoor", sum := "424709c53972cb886f08d325015028e147dd0219c62a584f07b9481cec7767bc", func := "loop.example/mixrelay/laws.FnAuditSelf", spec := "fnAuditSelf", inPlace := ["slices.overlaps[int]", "internal/reflectlite.TypeOf"], unfollowed := true, recurses := true, named := ["loop.example/mixrelay/impl.errRefused"], ifaces := true, apart := false, laid := [("loop.example/mixrelay/impl.errRefused", laid_loop_example_mixrelay_impl_errRefused)] }
def FnAuditSelfSaid : Prop := fnAuditSelfRow.holds Tryd.pinned (OpenSpec.ofChange fnAuditSelfSpec)

/-- ITS FALSE NEIGHBOUR: 'it returns false'. Refute it at one input. -/
def fnAuditSelfWrong : ChangeSpec := { name := "fnAuditSelf", vars := ["loop.example/mixrelay/impl.errRefused"], fn := fun _ => fun
  | [d, g1] => { results := [.lit (.bool false)], args := [d], vars := [g1] }
  | _ => none }
def FnAuditSelfWrongFalsely : Prop := fnAuditSelfRow.holds Tryd.pinned (OpenSpec.ofChange fnAuditSelfWrong)

/- THE SECOND FORM. 'bulk': how many values and letters a reading holds, each counted each time it is reached (what is shared counts as often as it is met; a slice's spare places count too). A statement '..UptoSaid' is the law's where the arguments, and the package variables that the reading takes, are together of bulk at most 1048576: NARROWER than '..Said'. Prove '..Said' where nothing that the law and all that it calls make is longer than what came in: it says more and counts as full. Else prove '..UptoSaid'. A law counts once. -/
mutual
def uptoBulk {H : Type} : DataW H → Nat
  | .lit (.string bytes) => bytes.length + 1
  | .lit _ => 1
  | .nil => 1
  | .ptr d => uptoBulk d + 1
  | .slice elems spare => uptoBulkAll elems + uptoBulkAll spare + 1
  | .agg parts => uptoBulkAll parts + 1
  | .iface _ d => uptoBulk d + 1
  | .map entries => uptoBulkEntries entries + 1
  | .held _ => 1
def uptoBulkAll {H : Type} : List (DataW H) → Nat
  | [] => 0
  | d :: r => uptoBulk d + uptoBulkAll r
def uptoBulkEntries {H : Type} : List (Lit × DataW H) → Nat
  | [] => 0
  | x :: r => uptoBulkEntry x + uptoBulkEntries r
def uptoBulkEntry {H : Type} : Lit × DataW H → Nat
  | (.string bytes, d) => bytes.length + uptoBulk d + 1
  | (_, d) => uptoBulk d + 1
 end
def uptoSmall : (H : Type) → List (DataW H) → Bool := fun _ ds => decide (uptoBulkAll ds ≤ 1048576)
def OpenSpec.upto (s : _root_.Go.ChangeSpec) : _root_.Go.OpenSpec := { _root_.Go.OpenSpec.ofChange s with cond := some uptoSmall }

/-- 'laws.FnAuditSpend', WHERE WHAT IT READS IS OF BULK AT MOST 1048576: true; the input reads as it did. -/
def fnAuditSpendUptoRow : OpenClaim := { program := "ytppkbmlbggokkaadoor", sum := "424709c53972cb886f08d325015028e147dd0219c62a584f07b9481cec7767bc", func := "loop.example/mixrelay/laws.FnAuditSpend", spec := "fnAuditSpend", inPlace := ["slices.overlaps[int]", "internal/reflectlite.TypeOf"], unfollowed := true, recurses := true, named := ["loop.example/mixrelay/impl.errRefused"], ifaces := true, apart := false, laid := [("loop.example/mixrelay/impl.errRefused", laid_loop_example_mixrelay_impl_errRefused)], narrowed := true }
def FnAuditSpendUptoSaid : Prop := fnAuditSpendUptoRow.holds Tryd.pinned (OpenSpec.upto fnAuditSpendSpec)

/-- 'laws.FnExactTicketSpend', WHERE WHAT IT READS IS OF BULK AT MOST 1048576: true; the input reads as it did. -/
def fnExactTicketSpendUptoRow : OpenClaim := { program := "ytppkbmlbggokkaadoor", sum := "424709c53972cb886f08d325015028e147dd0219c62a584f07b9481cec7767bc", func := "loop.example/mixrelay/laws.FnExactTicketSpend", spec := "fnExactTicketSpend", inPlace := ["slices.overlaps[int]", "internal/reflectlite.TypeOf"], unfollowed := true, recurses := true, named := ["loop.example/mixrelay/impl.errRefused"], ifaces := true, apart := false, laid := [("loop.example/mixrelay/impl.errRefused", laid_loop_example_mixrelay_impl_errRefused)], narrowed := true }
def FnExactTicketSpendUptoSaid : Prop := fnExactTicketSpendUptoRow.holds Tryd.pinned (OpenSpec.upto fnExactTicketSpendSpec)

/-- 'laws.FnSpendOrder', WHERE WHAT IT READS IS OF BULK AT MOST 1048576: true; the input reads as it did. -/
def fnSpendOrderUptoRow : OpenClaim := { program := "ytppkbmlbggokkaadoor", sum := "424709c53972cb886f08d325015028e147dd0219c62a584f07b9481cec7767bc", func := "loop.example/mixrelay/laws.FnSpendOrder", spec := "fnSpendOrder", inPlace := ["slices.overlaps[int]", "internal/reflectlite.TypeOf"], unfollowed := true, recurses := true, named := ["loop.example/mixrelay/impl.errRefused"], ifaces := true, apart := false, laid := [("loop.example/mixrelay/impl.errRefused", laid_loop_example_mixrelay_impl_errRefused)], narrowed := true }
def FnSpendOrderUptoSaid : Prop := fnSpendOrderUptoRow.holds Tryd.pinned (OpenSpec.upto fnSpendOrderSpec)

/-- 'laws.FnSpendTwice', WHERE WHAT IT READS IS OF BULK AT MOST 1048576: true; the input reads as it did. -/
def fnSpendTwiceUptoRow : OpenClaim := { program := "ytppkbmlbggokkaadoor", sum := "424709c53972cb886f08d325015028e147dd0219c62a584f07b9481cec7767bc", func := "loop.example/mixrelay/laws.FnSpendTwice", spec := "fnSpendTwice", inPlace := ["slices.overlaps[int]", "internal/reflectlite.TypeOf"], unfollowed := true, recurses := true, named := ["loop.example/mixrelay/impl.errRefused"], ifaces := true, apart := false, laid := [("loop.example/mixrelay/impl.errRefused", laid_loop_example_mixrelay_impl_errRefused)], narrowed := true }
def FnSpendTwiceUptoSaid : Prop := fnSpendTwiceUptoRow.holds Tryd.pinned (OpenSpec.upto fnSpendTwiceSpec)

/-- 'laws.FnSpend', WHERE WHAT IT READS IS OF BULK AT MOST 1048576: true; the input reads as it did. -/
def fnSpendUptoRow : OpenClaim := { program := "ytppkbmlbggokkaadoor", sum := "424709c53972cb886f08d325015028e147dd0219c62a584f07b9481cec7767bc", func := "loop.example/mixrelay/laws.FnSpend", spec := "fnSpend", inPlace := ["slices.overlaps[int]", "internal/reflectlite.TypeOf"], unfollowed := true, recurses := true, named := ["loop.example/mixrelay/impl.errRefused"], ifaces := true, apart := false, laid := [("loop.example/mixrelay/impl.errRefused", laid_loop_example_mixrelay_impl_errRefused)], narrowed := true }
def FnSpendUptoSaid : Prop := fnSpendUptoRow.holds Tryd.pinned (OpenSpec.upto fnSpendSpec)

/-- 'laws.FnSpendRefused', WHERE WHAT IT READS IS OF BULK AT MOST 1048576: true; the input reads as it did. -/
def fnSpendRefusedUptoRow : OpenClaim := { program := "ytppkbmlbggokkaadoor", sum := "424709c53972cb886f08d325015028e147dd0219c62a584f07b9481cec7767bc", func := "loop.example/mixrelay/laws.FnSpendRefused", spec := "fnSpendRefused", inPlace := ["slices.overlaps[int]", "internal/reflectlite.TypeOf"], unfollowed := true, recurses := true, named := ["loop.example/mixrelay/impl.errRefused"], ifaces := true, apart := false, laid := [("loop.example/mixrelay/impl.errRefused", laid_loop_example_mixrelay_impl_errRefused)], narrowed := true }
def FnSpendRefusedUptoSaid : Prop := fnSpendRefusedUptoRow.holds Tryd.pinned (OpenSpec.upto fnSpendRefusedSpec)

/-- 'laws.FnAuditSelf', WHERE WHAT IT READS IS OF BULK AT MOST 1048576: true; the input reads as it did. -/
def fnAuditSelfUptoRow : OpenClaim := { program := "ytppkbmlbggokkaadoor", sum := "424709c53972cb886f08d325015028e147dd0219c62a584f07b9481cec7767bc", func := "loop.example/mixrelay/laws.FnAuditSelf", spec := "fnAuditSelf", inPlace := ["slices.overlaps[int]", "internal/reflectlite.TypeOf"], unfollowed := true, recurses := true, named := ["loop.example/mixrelay/impl.errRefused"], ifaces := true, apart := false, laid := [("loop.example/mixrelay/impl.errRefused", laid_loop_example_mixrelay_impl_errRefused)], narrowed := true }
def FnAuditSelfUptoSaid : Prop := fnAuditSelfUptoRow.holds Tryd.pinned (OpenSpec.upto fnAuditSelfSpec)

end Rows
end Go.Proofs.YtppkbmlbggokkaaDoor
