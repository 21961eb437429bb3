/- Slices of flows that came in, opened. -/
import Derived.Test.YtolifggjblfobaaExF
import Derived.Deep.Slices
import Derived.Deep.Strs
import Derived.Test.YtolifggjblfobaaRows
import Derived.ProofKit
import Derived.OpenShut
import Derived.ShutString
import Derived.ChangeOld
import Derived.Below
import Derived.Lib.SmallJoins
namespace Go.Proofs.Ytolifggjblfobaa
open Go.ChangeShapes Go.WideShapes Go.ChangeAt Go.RowKit Go.Joins Go.Deep
theorem flows_opened {H : Type} {enc : TypeId × Value → H} {W : World} {ao : Option Addr} {n cap : Nat} {d : DataW H} {p : List MemPlace}
    (h : DataW.Trod enc Try.prog W 0 (fun _ => true) true 31 (.slice ao n cap) d p) : ∃ fs, FlowsIn W ao n cap fs := by
  have ce : Try.prog.cellsOf 54 = 3 := by kernel_rfl
  have ci : Try.prog.cellsOf 3 = 1 := by kernel_rfl
  obtain ⟨fuel, hf⟩ := h
  rcases open_slice Try.underlying31 hf with ⟨hcs, _⟩ | ⟨a, len, cap', m, k, D, Pl, hcs, _, hl, hm, hmm, _, hx⟩
  · simp [Value.cells] at hcs
    obtain ⟨rfl, rfl, rfl⟩ := hcs
    exact ⟨[], ⟨rfl, Nat.le_refl _, by omega, fun _ => ⟨rfl, rfl⟩, .inl rfl⟩, fun i hi => by simp at hi⟩
  · simp [Value.cells] at hcs
    obtain ⟨rfl, rfl, rfl⟩ := hcs
    unfold maxLen at hm
    have hlm : n ≤ m := by rw [hmm]; split <;> omega
    have each : ∀ i, i < n → ∃ q : F3, W.cell? (a.add (i * 3)) = some (.int .i64 q.1) ∧ W.cell? (a.add (i * 3 + 1)) = some (.int .i64 q.2.1) ∧ W.cell? (a.add (i * 3 + 2)) = some (.int .i64 q.2.2) ∧ q.2.2 ≤ 9223372036854775807 := by
      intro i hi
      obtain ⟨cs', h1, h2⟩ := hx i (by omega)
      rw [ce] at h1
      obtain ⟨_, hlen, hcell⟩ := World.cells?_some h1
      obtain ⟨y0, y1, y2, k', hxy, _, u0, u1, u2⟩ := trod_struct3 Try.underlying54 h2
      match cs', hlen with
      | [v0, v1, v2], _ =>
        simp only [ci, List.drop, List.take] at u0 u1 u2
        obtain ⟨s, e0, _, _⟩ := DataW.trod_int Try.underlying3 u0
        obtain ⟨q, e1, _, _⟩ := DataW.trod_int Try.underlying3 u1
        obtain ⟨r, e2, _, w2⟩ := DataW.trod_int Try.underlying3 u2
        simp only [List.cons.injEq, and_true] at e0 e1 e2
        subst e0; subst e1; subst e2
        have c0 := hcell 0 (by omega)
        have c1 := hcell 1 (by omega)
        have c2 := hcell 2 (by omega)
        rw [add_add] at c0 c1 c2
        have hb : -9223372036854775808 ≤ r ∧ r ≤ 9223372036854775807 := by simpa [Lit.wf, IntKind.min, IntKind.max, IntKind.signed, IntKind.bits] using w2
        exact ⟨(s, q, r), by simpa using c0, by simpa using c1, by simpa using c2, hb.2⟩
    obtain ⟨q, hq⟩ := choose_lt each
    have hl2 : ((List.range n).map q).length = n := by simp
    have hg : ∀ i, i < n → ((List.range n).map q).getD i f0 = q i := fun i hi => by simp [List.getD_eq_getElem?_getD, hi]
    refine ⟨(List.range n).map q, ⟨hl2, hl, by omega, by simp, ?_⟩, fun i hi => ?_⟩
    · by_cases h0 : n = 0
      · exact .inl h0
      · obtain ⟨b, off, spot⟩ := a
        have hc0 := (hq 0 (by omega)).1
        have hspot : spot = none := by simpa [Addr.add] using World.cell?_spot hc0
        subst hspot
        refine .inr ⟨b, off, rfl, ?_, fun i hi => ?_⟩
        · have := World.block_lt_of_cell? W _ hc0
          simpa [Addr.add] using this
        · have hh := hq i hi
          rw [hg i hi]
          simp only [Addr.add_lit] at hh
          exact ⟨hh.1, hh.2.1, hh.2.2.1⟩
    · rw [hl2] at hi
      rw [hg i hi]
      exact (hq i hi).2.2.2
end Go.Proofs.Ytolifggjblfobaa
