/- Arguments that came in, opened. -/
import Derived.Test.YtedpkhboepahgaaOpen
import Derived.Test.YtedpkhboepahgaaRows
import Derived.ProofKit
import Derived.OpenShut
import Derived.ShutString
import Derived.ChangeOld
import Derived.Below
import Derived.Lib.SmallJoins
namespace Go.Proofs.Ytedpkhboepahgaa
open Go.ChangeShapes Go.WideShapes Go.ChangeAt Go.RowKit Go.Joins
theorem code_opened {H : Type} {enc : TypeId × Value → H} {W : World} {ao : Option Addr} {n cap : Nat} {d : DataW H} {p : List MemPlace} {q : Program}
    (hu : q.underlying 22 = some (.slice 5)) (hv : q.underlying 5 = some (.int .u8)) (hc : q.cellsOf 5 = 1)
    (h : DataW.Trod enc q W 0 (fun _ => true) true 22 (.slice ao n cap) d p) : CodeAt W ao n cap := by
  obtain ⟨fuel, hf⟩ := h
  rcases open_ints hu hv hc hf with ⟨hcs, _⟩ | ⟨x, l, c, zs, hcs, _, hl, hm, hz, _, hcell, hwz⟩
  · simp [Value.cells] at hcs
    obtain ⟨rfl, rfl, rfl⟩ := hcs
    exact ⟨Nat.le_refl _, by omega, .inl rfl⟩
  · simp [Value.cells] at hcs
    obtain ⟨rfl, rfl, rfl⟩ := hcs
    refine ⟨hl, hm, ?_⟩
    by_cases h0 : n = 0
    · exact .inl h0
    · obtain ⟨b, off, spot⟩ := x
      have hz' : zs.length = cap := by simpa using hz
      have hc0 := hcell 0 (by omega)
      have hspot : spot = none := by simpa [Addr.add] using World.cell?_spot hc0
      subst hspot
      refine .inr ⟨b, off, rfl, ?_, fun i hi => ?_⟩
      · have := World.block_lt_of_cell? W _ hc0
        simpa [Addr.add] using this
      · have hci := hcell i (by omega)
        have hw := hwz (zs.getD i 0) (by rw [List.getD_eq_getElem?_getD, List.getElem?_eq_getElem (by omega)]; simp)
        have hb : 0 ≤ zs.getD i 0 ∧ zs.getD i 0 ≤ 255 := by simpa [Lit.wf, IntKind.min, IntKind.max, IntKind.signed, IntKind.bits] using hw
        refine ⟨zs.getD i 0, hb.1, hb.2, ?_⟩
        rw [← hci]
        congr 1
        unfold Addr.add
        split <;> simp_all
end Go.Proofs.Ytedpkhboepahgaa
