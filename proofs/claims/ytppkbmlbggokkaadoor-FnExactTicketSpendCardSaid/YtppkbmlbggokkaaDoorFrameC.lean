/- The sentinel that the program's text lays, and what a tied row owes. -/
import Derived.Test.YtppkbmlbggokkaaDoorSpendI
import Derived.Test.YtppkbmlbggokkaaDoorFrame
import Derived.Test.YtppkbmlbggokkaaDoorFrameI
import Derived.Test.YtppkbmlbggokkaaDoorCards
import Derived.Test.YtppkbmlbggokkaaDoorTie
import Derived.LaidLaws
import Derived.ChangeSame
import Derived.ChangeVars
import Derived.JoinedOf
import Derived.RowKitTokens
import Derived.Stop.LaidErr
import Derived.SevenTiedAt
import Derived.Test.YtppkbmlbggokkaaDoorRows
import Derived.ProofKit
import Derived.OpenShut
import Derived.ShutString
import Derived.ChangeOld
import Derived.Below
import Derived.Lib.SmallJoins
namespace Go.Proofs.YtppkbmlbggokkaaDoor
open Go.ChangeShapes Go.WideShapes Go.ChangeAt Go.RowKit Go.Joins Go.Extern.Stop Go.Stop Go.Extern
abbrev refName : String := "loop.example/mixrelay/impl.errRefused"
def laid1 : List (String × DataW Unit) := Rows.fnSpendRow.laid
theorem gRef : Tryd.prog.globalNamed refName = some 0 := by kernel_rfl
theorem gRefType : (Tryd.prog.globals[0]?).map (·.type) = some 48 := by kernel_rfl
theorem cellsErr : Tryd.prog.cellsOf 112 = 1 := by kernel_rfl
theorem cellsStr : Tryd.prog.cellsOf 9 = 1 := by kernel_rfl
theorem starErr : "*" ++ "errors.errorString" = "*errors.errorString" := by decide
theorem rowErr (u : TypeId) (h : Tryd.prog.typeName? 3 u = some "*errors.errorString") : u = 86 :=
  typeName_ptr_named (nm := "errors.errorString") (by rw [starErr]; kernel_rfl) (by kernel_rfl) (by decide) u (by rw [starErr]; exact h)
abbrev refS : ByteArray := { data := #[114, 101, 102, 117, 115, 101, 100] }
noncomputable def low : Nat := (World.holding Tryd.prog default ⟨#[], #[], []⟩).heap.size
noncomputable def laidWorld (os : Os) : World :=
  let w0 := World.holding Tryd.prog os ⟨#[.cells #[.string refS] 112], #[], []⟩
  { w0 with heap := w0.heap.modify 0 fun
      | .cells _ t frozen => .cells #[.iface 86 (.pointer (some ⟨low, 0, none⟩))] t frozen
      | o => o }
theorem laid_met (os : Os) (args : Array Value) : laidMet Tryd.prog laid1 ((laidWorld os).forCall (fun _ _ => 0) ⟨#[], args, []⟩).memory :=
  laidMet_of_run (ps := [.cell 0 0, .cell low 0]) 8 (by kernel_rfl) (by kernel_rfl) (by kernel_rfl)
theorem refused_of {W : World} (hL : laidMet Tryd.prog laid1 W) : ∃ b, W.var? Tryd.prog refName = some #[.iface 86 (.pointer (some b))] ∧ W.cell? ⟨0, 0, none⟩ = some (.iface 86 (.pointer (some b))) := by
  obtain ⟨a, s, hv, _, _, _⟩ := laid_sentinel hL gRef gRefType Tryd.underlying48 rowErr Tryd.underlying86 Tryd.underlying112 rfl rfl Tryd.underlying9 cellsErr cellsStr
  exact ⟨a, hv, by simpa using World.var?_cell gRef hv 0⟩
theorem vars1 {H : Type} (enc : TypeId × Value → H) {W : World} {b : Addr} (hv : W.var? Tryd.prog refName = some #[.iface 86 (.pointer (some b))]) (sp : Nat → Bool) :
    DataW.TrodVars enc Tryd.prog W sp [refName] [tok enc (.iface 86 (.pointer (some b)))] [.cell 0 0] :=
  vars_read1 enc gRef gRefType Tryd.underlying48 hv trivial sp
theorem var_kept {W W' : World} {x : Array Value} {v : Value} (hv : W.var? Tryd.prog refName = some x) (hc : W.cell? ⟨0, 0, none⟩ = some v) (g : W.grownBy W' none) : W'.var? Tryd.prog refName = some x := by
  have h0 : 0 < W.heap.size := World.block_lt_of_cell? W _ hc
  have hb := g.block 0 h0 (by simp)
  unfold World.var? at hv ⊢
  rw [gRef, Option.bind_some] at hv ⊢
  rw [hb]
  exact hv
end Go.Proofs.YtppkbmlbggokkaaDoor
