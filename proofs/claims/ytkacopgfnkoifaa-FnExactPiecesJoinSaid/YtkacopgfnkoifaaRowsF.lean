/- Slices of slices of ints that came in, opened. -/
import Derived.Test.YtkacopgfnkoifaaLrows
import Derived.Deep.Matrix
import Derived.Test.YtkacopgfnkoifaaRows
import Derived.ProofKit
import Derived.OpenShut
import Derived.ShutString
import Derived.ChangeOld
import Derived.Below
import Derived.Lib.SmallJoins
namespace Go.Proofs.Ytkacopgfnkoifaa
open Go.ChangeShapes Go.WideShapes Go.ChangeAt Go.RowKit Go.Joins Go.Deep
theorem rows_opened {H : Type} {enc : TypeId × Value → H} {W : World} {ao : Option Addr} {n cap : Nat} {d : DataW H} {p : List MemPlace} {q : Program}
    (ht : q.underlying 23 = some (.slice 22)) (hu : q.underlying 22 = some (.slice 3)) (hv : q.underlying 3 = some (.int .i64)) (ce : q.cellsOf 22 = 1) (cq : q.cellsOf 3 = 1)
    (h : DataW.Trod enc q W 0 (fun _ => true) true 23 (.slice ao n cap) d p) : ∃ rows, RowsAt W ao n cap rows := by
  obtain ⟨fuel, hf⟩ := h
  rcases open_int_rows ht hu hv ce cq hf with ⟨hcs, _⟩ | ⟨x, l, c, A, L, C, Z, hcs, _, hl, hm, _, hrow⟩
  · simp [Value.cells] at hcs
    obtain ⟨rfl, rfl, rfl⟩ := hcs
    exact ⟨[], [], ⟨rfl, Nat.le_refl _, by omega, fun _ => ⟨rfl, rfl⟩, .inl rfl⟩, rfl, fun i r hi => by simp at hi⟩
  · simp [Value.cells] at hcs
    obtain ⟨rfl, rfl, rfl⟩ := hcs
    unfold maxLen at hm hrow
    have at0 : ∀ {a : Addr} {v : Value}, W.cell? (a.add 0) = some v → a = ⟨a.block, a.off, none⟩ ∧ a.block < W.heap.size := by
      intro a v hc
      obtain ⟨b, off, spot⟩ := a
      have hspot : spot = none := by simpa [Addr.add] using World.cell?_spot hc
      subst hspot
      have hb := World.block_lt_of_cell? W _ hc
      rw [Addr.add_lit] at hb
      exact ⟨rfl, hb⟩
    have atj : ∀ {a : Addr} {v : Value} {j : Nat}, a = ⟨a.block, a.off, none⟩ → W.cell? (a.add j) = some v → W.cell? ⟨a.block, a.off + j, none⟩ = some v := by
      intro a v j e hc
      rw [e, Addr.add_lit] at hc
      exact hc
    refine ⟨(List.range n).map fun r => (Z r).take (L r), (List.range n).map fun r => .slice (A r) (L r) (C r), ⟨by simp, hl, by omega, by simp, ?_⟩, by simp, fun i r hi => ?_⟩
    · by_cases h0 : n = 0
      · exact .inl h0
      · obtain ⟨e, hb⟩ := at0 (hrow 0 (by omega)).1
        refine .inr ⟨x.block, x.off, by rw [← e], hb, fun i v hv => ?_⟩
        have hi : i < n := by
          have := (List.getElem?_eq_some_iff.1 hv).1
          simpa using this
        simp [hi] at hv
        subst hv
        exact atj e (hrow i (by omega)).1
    · have hin : i < n := by
        have := (List.getElem?_eq_some_iff.1 hi).1
        simpa using this
      simp [hin] at hi
      subst hi
      obtain ⟨_, k1, k2, k5, _, k3, k4⟩ := hrow i (by omega)
      have hlen : ((Z i).take (L i)).length = L i := by simp; omega
      refine ⟨A i, C i, by simp [hin, hlen], ⟨by simp, by omega, by omega, fun e => by have := k3 e; omega, ?_⟩⟩
      rw [hlen]
      by_cases h0 : L i = 0
      · exact .inl h0
      · cases hA : A i with
        | none => have := k3 hA; omega
        | some a =>
          obtain ⟨_, hc⟩ := k4 a hA
          obtain ⟨e, hb⟩ := at0 (hc 0 (by omega))
          refine .inr ⟨a.block, a.off, by rw [← e], hb, fun j v hv => ?_⟩
          have hj : j < L i := by
            have := (List.getElem?_eq_some_iff.1 hv).1
            simp at this; omega
          rw [List.getElem?_map, List.getElem?_take, if_pos hj, List.getElem?_eq_getElem (by omega)] at hv
          simp at hv
          subst hv
          have := atj e (hc j (by omega))
          rw [this]
          simp [List.getD_eq_getElem?_getD, List.getElem?_eq_getElem (l := Z i) (i := j) (by omega)]
end Go.Proofs.Ytkacopgfnkoifaa
