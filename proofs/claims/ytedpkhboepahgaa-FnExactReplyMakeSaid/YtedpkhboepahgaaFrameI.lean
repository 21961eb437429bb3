/- Slices of ints that came in, opened. -/
import Derived.Test.YtedpkhboepahgaaInts
import Derived.Test.YtedpkhboepahgaaRows
import Derived.ProofKit
import Derived.OpenShut
import Derived.ShutString
import Derived.ChangeOld
import Derived.Below
import Derived.Lib.SmallJoins
namespace Go.Proofs.Ytedpkhboepahgaa
open Go.ChangeShapes Go.WideShapes Go.ChangeAt Go.RowKit Go.Joins
theorem ints_opened {H : Type} {enc : TypeId × Value → H} {W : World} {ao : Option Addr} {n cap : Nat} {d : DataW H} {p : List MemPlace} {q : Program}
    (hu : q.underlying 23 = some (.slice 3)) (hv : q.underlying 3 = some (.int .i64)) (hc : q.cellsOf 3 = 1)
    (h : DataW.Trod enc q W 0 (fun _ => true) true 23 (.slice ao n cap) d p) : ∃ xs, IntsAt W ao n cap xs := by
  obtain ⟨fuel, hf⟩ := h
  rcases open_ints hu hv hc hf with ⟨hcs, _⟩ | ⟨x, l, c, zs, hcs, _, hl, hm, hz, _, hcell, hwz⟩
  · simp [Value.cells] at hcs
    obtain ⟨rfl, rfl, rfl⟩ := hcs
    exact ⟨[], ⟨rfl, Nat.le_refl _, by omega, fun _ => ⟨rfl, rfl⟩, .inl rfl⟩⟩
  · simp [Value.cells] at hcs
    obtain ⟨rfl, rfl, rfl⟩ := hcs
    have hz' : zs.length = cap := by simpa using hz
    refine ⟨zs.take n, ⟨by simp; omega, hl, hm, by simp, ?_⟩⟩
    by_cases h0 : n = 0
    · exact .inl h0
    · obtain ⟨b, off, spot⟩ := x
      have hc0 := hcell 0 (by omega)
      have hspot : spot = none := by simpa [Addr.add] using World.cell?_spot hc0
      subst hspot
      refine .inr ⟨b, off, rfl, ?_, fun i v hv => ?_⟩
      · have := World.block_lt_of_cell? W _ hc0
        simpa [Addr.add] using this
      · have hi : i < n := by
          have := (List.getElem?_eq_some_iff.1 hv).1
          simp at this; omega
        have hci := hcell i (by omega)
        have hvv : v = .int .i64 (zs.getD i 0) := by
          simp [hi, List.getElem?_eq_getElem (l := zs) (i := i) (by omega)] at hv
          rw [← hv]
          simp [List.getD_eq_getElem?_getD, List.getElem?_eq_getElem (l := zs) (i := i) (by omega)]
        rw [hvv, ← hci]
        congr 1
        unfold Addr.add
        split <;> simp_all
end Go.Proofs.Ytedpkhboepahgaa
