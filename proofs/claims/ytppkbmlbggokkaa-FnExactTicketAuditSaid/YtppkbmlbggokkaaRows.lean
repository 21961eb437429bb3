/-
  No cell of these rows narrows 'for every input' (looked for: loops, veiled, ifaces, maps, wideKeys, modest, calm, conditions, laid).
  DERIVED. THE GIVEN ROWS OF THIS SEAT. 6 by the template 'for every input the law returns true; each argument reads behind the call as it read before'; 0 by the template 'total and deterministic' (their statements: YtppkbmlbggokkaaTotals.lean).
  GIVEN WITH THE SEED: the statements are not yours to turn. If you find one false, say at which input.
  Laid BY PROGRAM, IN A SANDBOX (cutbox-rows.mjs): the forced cells as the released guide's own fill.sh prints them over the translation 9cd492af1e0fcd9f… (all of the seat's roots in one cut). By AI agents, Wed Nov 11 2026. No macro, syntax, notation, axiom, sorry.
-/
import Derived.Test.YtppkbmlbggokkaaChecked
import GoSem.Claim
import GoSem.ClaimJoined
import GoSem.ClaimMapViews
import Derived.JoinedTies
import Derived.KernelRfl
namespace Go.Proofs.Ytppkbmlbggokkaa
/- THE CELL 'sum', in the pinned program and in every row, IS THE sha256 OF THE DUMP (.gsa) THAT YtppkbmlbggokkaaProg.lean LOADS. Nothing in Lean hashes anything: it is a label: what it is worth is what the hold of that sum in a sandbox is worth. -/
noncomputable def Try.pinned : Pinned := { name := "ytppkbmlbggokkaa", sum := "9cd492af1e0fcd9f77d25700049946258c99aa1b14af73402cf8642ad20439d2", checked := Try.checked }
namespace Rows
def none {H : Type} : Left H := { results := [], args := [] }

/-- 'laws.FnExactTicketCheck': WHATEVER THE INPUT: true; the input reads as it did. -/
def fnExactTicketCheckSpec : ChangeSpec := { name := "fnExactTicketCheck", fn := fun _ => fun
  | [d1, d2] => { results := [.lit (.bool true)], args := [d1, d2] }
  | _ => none }
def fnExactTicketCheckRow : OpenClaim := { program := "ytppkbmlbggokkaa", sum := "9cd492af1e0fcd9f77d25700049946258c99aa1b14af73402cf8642ad20439d2", func := "loop.example/mixrelay/laws.FnExactTicketCheck", spec := "fnExactTicketCheck", apart := false }
def FnExactTicketCheckSaid : Prop := fnExactTicketCheckRow.holds Try.pinned (OpenSpec.ofChange fnExactTicketCheckSpec)

/-- ITS FALSE NEIGHBOUR: 'it returns false'. Refute it at one input. -/
def fnExactTicketCheckWrong : ChangeSpec := { name := "fnExactTicketCheck", fn := fun _ => fun
  | [d1, d2] => { results := [.lit (.bool false)], args := [d1, d2] }
  | _ => none }
def FnExactTicketCheckWrongFalsely : Prop := fnExactTicketCheckRow.holds Try.pinned (OpenSpec.ofChange fnExactTicketCheckWrong)

/-- 'laws.FnExactTicketMake': WHATEVER THE INPUT: true; the input reads as it did. -/
def fnExactTicketMakeSpec : ChangeSpec := { name := "fnExactTicketMake", fn := fun _ => fun
  | [d1, d2] => { results := [.lit (.bool true)], args := [d1, d2] }
  | _ => none }
def fnExactTicketMakeRow : OpenClaim := { program := "ytppkbmlbggokkaa", sum := "9cd492af1e0fcd9f77d25700049946258c99aa1b14af73402cf8642ad20439d2", func := "loop.example/mixrelay/laws.FnExactTicketMake", spec := "fnExactTicketMake", apart := false }
def FnExactTicketMakeSaid : Prop := fnExactTicketMakeRow.holds Try.pinned (OpenSpec.ofChange fnExactTicketMakeSpec)

/-- ITS FALSE NEIGHBOUR: 'it returns false'. Refute it at one input. -/
def fnExactTicketMakeWrong : ChangeSpec := { name := "fnExactTicketMake", fn := fun _ => fun
  | [d1, d2] => { results := [.lit (.bool false)], args := [d1, d2] }
  | _ => none }
def FnExactTicketMakeWrongFalsely : Prop := fnExactTicketMakeRow.holds Try.pinned (OpenSpec.ofChange fnExactTicketMakeWrong)

/-- 'laws.FnTicket': WHATEVER THE INPUT: true; the input reads as it did. -/
def fnTicketSpec : ChangeSpec := { name := "fnTicket", fn := fun _ => fun
  | [d1, d2] => { results := [.lit (.bool true)], args := [d1, d2] }
  | _ => none }
def fnTicketRow : OpenClaim := { program := "ytppkbmlbggokkaa", sum := "9cd492af1e0fcd9f77d25700049946258c99aa1b14af73402cf8642ad20439d2", func := "loop.example/mixrelay/laws.FnTicket", spec := "fnTicket", apart := false }
def FnTicketSaid : Prop := fnTicketRow.holds Try.pinned (OpenSpec.ofChange fnTicketSpec)

/-- ITS FALSE NEIGHBOUR: 'it returns false'. Refute it at one input. -/
def fnTicketWrong : ChangeSpec := { name := "fnTicket", fn := fun _ => fun
  | [d1, d2] => { results := [.lit (.bool false)], args := [d1, d2] }
  | _ => none }
def FnTicketWrongFalsely : Prop := fnTicketRow.holds Try.pinned (OpenSpec.ofChange fnTicketWrong)

/-- 'laws.FnTicketSerial': WHATEVER THE INPUT: true; the input reads as it did. -/
def fnTicketSerialSpec : ChangeSpec := { name := "fnTicketSerial", fn := fun _ => fun
  | [d1, d2] => { results := [.lit (.bool true)], args := [d1, d2] }
  | _ => none }
def fnTicketSerialRow : OpenClaim := { program := "ytppkbmlbggokkaa", sum := "9cd492af1e0fcd9f77d25700049946258c99aa1b14af73402cf8642ad20439d2", func := "loop.example/mixrelay/laws.FnTicketSerial", spec := "fnTicketSerial", apart := false }
def FnTicketSerialSaid : Prop := fnTicketSerialRow.holds Try.pinned (OpenSpec.ofChange fnTicketSerialSpec)

/-- ITS FALSE NEIGHBOUR: 'it returns false'. Refute it at one input. -/
def fnTicketSerialWrong : ChangeSpec := { name := "fnTicketSerial", fn := fun _ => fun
  | [d1, d2] => { results := [.lit (.bool false)], args := [d1, d2] }
  | _ => none }
def FnTicketSerialWrongFalsely : Prop := fnTicketSerialRow.holds Try.pinned (OpenSpec.ofChange fnTicketSerialWrong)

/-- 'laws.FnExactTicketAudit': WHATEVER THE INPUT: true; the input reads as it did. -/
def fnExactTicketAuditSpec : ChangeSpec := { name := "fnExactTicketAudit", fn := fun _ => fun
  | [d1, d2] => { results := [.lit (.bool true)], args := [d1, d2] }
  | _ => none }
def fnExactTicketAuditRow : OpenClaim := { program := "ytppkbmlbggokkaa", sum := "9cd492af1e0fcd9f77d25700049946258c99aa1b14af73402cf8642ad20439d2", func := "loop.example/mixrelay/laws.FnExactTicketAudit", spec := "fnExactTicketAudit", unfollowed := true, recurses := true, apart := false }
def FnExactTicketAuditSaid : Prop := fnExactTicketAuditRow.holds Try.pinned (OpenSpec.ofChange fnExactTicketAuditSpec)

/-- ITS FALSE NEIGHBOUR: 'it returns false'. Refute it at one input. -/
def fnExactTicketAuditWrong : ChangeSpec := { name := "fnExactTicketAudit", fn := fun _ => fun
  | [d1, d2] => { results := [.lit (.bool false)], args := [d1, d2] }
  | _ => none }
def FnExactTicketAuditWrongFalsely : Prop := fnExactTicketAuditRow.holds Try.pinned (OpenSpec.ofChange fnExactTicketAuditWrong)

/-- 'laws.FnAudit': WHATEVER THE INPUT: true; the input reads as it did. -/
def fnAuditSpec : ChangeSpec := { name := "fnAudit", fn := fun _ => fun
  | [d] => { results := [.lit (.bool true)], args := [d] }
  | _ => none }
def fnAuditRow : OpenClaim := { program := "ytppkbmlbggokkaa", sum := "9cd492af1e0fcd9f77d25700049946258c99aa1b14af73402cf8642ad20439d2", func := "loop.example/mixrelay/laws.FnAudit", spec := "fnAudit", unfollowed := true, recurses := true, apart := false }
def FnAuditSaid : Prop := fnAuditRow.holds Try.pinned (OpenSpec.ofChange fnAuditSpec)

/-- ITS FALSE NEIGHBOUR: 'it returns false'. Refute it at one input. -/
def fnAuditWrong : ChangeSpec := { name := "fnAudit", fn := fun _ => fun
  | [d] => { results := [.lit (.bool false)], args := [d] }
  | _ => none }
def FnAuditWrongFalsely : Prop := fnAuditRow.holds Try.pinned (OpenSpec.ofChange fnAuditWrong)

/- THE SECOND FORM. 'bulk': how many values and letters a reading holds, each counted each time it is reached (what is shared counts as often as it is met; a slice's spare places count too). A statement '..UptoSaid' is the law's where the arguments, and the package variables that the reading takes, are together of bulk at most 1048576: NARROWER than '..Said'. Prove '..Said' where nothing that the law and all that it calls make is longer than what came in: it says more and counts as full. Else prove '..UptoSaid'. A law counts once. -/
mutual
def uptoBulk {H : Type} : DataW H → Nat
  | .lit (.string bytes) => bytes.length + 1
  | .lit _ => 1
  | .nil => 1
  | .ptr d => uptoBulk d + 1
  | .slice elems spare => uptoBulkAll elems + uptoBulkAll spare + 1
  | .agg parts => uptoBulkAll parts + 1
  | .iface _ d => uptoBulk d + 1
  | .map entries => uptoBulkEntries entries + 1
  | .held _ => 1
def uptoBulkAll {H : Type} : List (DataW H) → Nat
  | [] => 0
  | d :: r => uptoBulk d + uptoBulkAll r
def uptoBulkEntries {H : Type} : List (Lit × DataW H) → Nat
  | [] => 0
  | x :: r => uptoBulkEntry x + uptoBulkEntries r
def uptoBulkEntry {H : Type} : Lit × DataW H → Nat
  | (.string bytes, d) => bytes.length + uptoBulk d + 1
  | (_, d) => uptoBulk d + 1
 end
def uptoSmall : (H : Type) → List (DataW H) → Bool := fun _ ds => decide (uptoBulkAll ds ≤ 1048576)
def OpenSpec.upto (s : _root_.Go.ChangeSpec) : _root_.Go.OpenSpec := { _root_.Go.OpenSpec.ofChange s with cond := some uptoSmall }

/-- 'laws.FnExactTicketCheck', WHERE WHAT IT READS IS OF BULK AT MOST 1048576: true; the input reads as it did. -/
def fnExactTicketCheckUptoRow : OpenClaim := { program := "ytppkbmlbggokkaa", sum := "9cd492af1e0fcd9f77d25700049946258c99aa1b14af73402cf8642ad20439d2", func := "loop.example/mixrelay/laws.FnExactTicketCheck", spec := "fnExactTicketCheck", apart := false, narrowed := true }
def FnExactTicketCheckUptoSaid : Prop := fnExactTicketCheckUptoRow.holds Try.pinned (OpenSpec.upto fnExactTicketCheckSpec)

/-- 'laws.FnExactTicketMake', WHERE WHAT IT READS IS OF BULK AT MOST 1048576: true; the input reads as it did. -/
def fnExactTicketMakeUptoRow : OpenClaim := { program := "ytppkbmlbggokkaa", sum := "9cd492af1e0fcd9f77d25700049946258c99aa1b14af73402cf8642ad20439d2", func := "loop.example/mixrelay/laws.FnExactTicketMake", spec := "fnExactTicketMake", apart := false, narrowed := true }
def FnExactTicketMakeUptoSaid : Prop := fnExactTicketMakeUptoRow.holds Try.pinned (OpenSpec.upto fnExactTicketMakeSpec)

/-- 'laws.FnTicket', WHERE WHAT IT READS IS OF BULK AT MOST 1048576: true; the input reads as it did. -/
def fnTicketUptoRow : OpenClaim := { program := "ytppkbmlbggokkaa", sum := "9cd492af1e0fcd9f77d25700049946258c99aa1b14af73402cf8642ad20439d2", func := "loop.example/mixrelay/laws.FnTicket", spec := "fnTicket", apart := false, narrowed := true }
def FnTicketUptoSaid : Prop := fnTicketUptoRow.holds Try.pinned (OpenSpec.upto fnTicketSpec)

/-- 'laws.FnTicketSerial', WHERE WHAT IT READS IS OF BULK AT MOST 1048576: true; the input reads as it did. -/
def fnTicketSerialUptoRow : OpenClaim := { program := "ytppkbmlbggokkaa", sum := "9cd492af1e0fcd9f77d25700049946258c99aa1b14af73402cf8642ad20439d2", func := "loop.example/mixrelay/laws.FnTicketSerial", spec := "fnTicketSerial", apart := false, narrowed := true }
def FnTicketSerialUptoSaid : Prop := fnTicketSerialUptoRow.holds Try.pinned (OpenSpec.upto fnTicketSerialSpec)

/-- 'laws.FnExactTicketAudit', WHERE WHAT IT READS IS OF BULK AT MOST 1048576: true; the input reads as it did. -/
def fnExactTicketAuditUptoRow : OpenClaim := { program := "ytppkbmlbggokkaa", sum := "9cd492af1e0fcd9f77d25700049946258c99aa1b14af73402cf8642ad20439d2", func := "loop.example/mixrelay/laws.FnExactTicketAudit", spec := "fnExactTicketAudit", unfollowed := true, recurses := true, apart := false, narrowed := true }
def FnExactTicketAuditUptoSaid : Prop := fnExactTicketAuditUptoRow.holds Try.pinned (OpenSpec.upto fnExactTicketAuditSpec)

/-- 'laws.FnAudit', WHERE WHAT IT READS IS OF BULK AT MOST 1048576: true; the input reads as it did. -/
def fnAuditUptoRow : OpenClaim := { program := "ytppkbmlbggokkaa", sum := "9cd492af1e0fcd9f77d25700049946258c99aa1b14af73402cf8642ad20439d2", func := "loop.example/mixrelay/laws.FnAudit", spec := "fnAudit", unfollowed := true, recurses := true, apart := false, narrowed := true }
def FnAuditUptoSaid : Prop := fnAuditUptoRow.holds Try.pinned (OpenSpec.upto fnAuditSpec)

end Rows
end Go.Proofs.Ytppkbmlbggokkaa
