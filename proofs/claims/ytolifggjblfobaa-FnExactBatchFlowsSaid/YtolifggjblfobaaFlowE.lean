/- Comparisons of flows: sameFlows, slices.Equal. -/
import Derived.Test.YtolifggjblfobaaViewP
import Derived.Test.YtolifggjblfobaaInts
import Derived.WalkKit
import Derived.Lib.Hide
import Derived.Deep.QuietTactic
import Derived.BigQuiet
namespace Go.Proofs.Ytolifggjblfobaa
open Go.RowKit
theorem flows_of_getD {xs ys : List F3} (hl : xs.length = ys.length) (h : ∀ j, j < xs.length → xs.getD j f0 = ys.getD j f0) : xs = ys := by
  refine List.ext_getElem hl fun i h1 h2 => ?_
  have := h i h1
  simpa [List.getD_eq_getElem?_getD, List.getElem?_eq_getElem h1, List.getElem?_eq_getElem h2] using this
set_option maxHeartbeats 1000000 in
theorem sameFlows_any (w : World) (ao : Option Addr) (n cap : Nat) (xs : List F3) (bo : Option Addr) (m cap' : Nat) (ys : List F3) (h : FlowsAt w ao n cap xs) (h' : FlowsAt w bo m cap' ys) :
    Calls Try.prog 21 #[.slice ao n cap, .slice bo m cap'] w fun e w' => e = .returned (.bool (pb (xs = ys))) ∧ ∃ d, w' = w.drewN d := by
  have hl := h.len
  have hl' := h'.len
  have hm := h.max
  have hnm := h.le
  have H := Lib.hid hl
  have H' := Lib.hid hl'
  clear hl hl'
  by_cases hnm' : n = m
  · subst hnm'
    go_enter Try.func21, Try.ntmps21
    go_wp2
    go_loopw [5] (fun  i wr => ∃ k : Nat, k ≤ n ∧ i = .int .i64 k ∧ Hid (∃ d, wr = w.drewN d) ∧ Hid (∀ j, j < k → xs.getD j f0 = ys.getD j f0)) (fun  i _ => n - (intOf i).toNat)
    case atStart => exact ⟨0, Nat.zero_le _, rfl, ⟨0, rfl⟩, fun j hj => by omega⟩
    case round =>
      obtain ⟨k, hk, rfl, hd, hok⟩ := hrel
      by_cases hlt : k < n
      · obtain ⟨b, off, rfl, hb, c0, c1, c2⟩ := h.at k hlt
        obtain ⟨b', off', rfl, hb', d0, d1, d2⟩ := h'.at k hlt
        rw [← drewN_cell hd] at c0 c1 c2 d0 d1 d2
        obtain ⟨f, hf⟩ : ∃ f, xs.getD k f0 = f := ⟨_, rfl⟩
        obtain ⟨g, hg⟩ : ∃ g, ys.getD k f0 = g := ⟨_, rfl⟩
        rw [hf] at c0 c1 c2
        rw [hg] at d0 d1 d2
        have Hf := Lib.hid hf
        have Hg := Lib.hid hg
        clear hf hg
        obtain ⟨x, y, z⟩ := f
        obtain ⟨x', y', z'⟩ := g
        simp only at c0 c1 c2 d0 d1 d2
        have i0 : (0 : Int) ≤ (k : Int) := by omega
        have i1 : (k : Int) < n := by omega
        by_cases hzy : (x, y, z) = (x', y', z')
        · obtain ⟨rfl, rfl, rfl⟩ : x = x' ∧ y = y' ∧ z = z' := by simpa using hzy
          have NX : Hid (∀ j, j < k + 1 → xs.getD j f0 = ys.getD j f0) := Lib.hid fun j hj => by
            by_cases e : j = k
            · subst e; rw [Hf.out, Hg.out]
            · exact hok.out j (by omega)
          clear hzy hok
          go_wp2_with fail
          go_quiet (fail)
          go_wp2
          go_roundw
          case rel => exact ⟨k + 1, by omega, by go_num, drewN_more hd _, NX⟩
          case measure => simp [intOf]; omega
        · have hp : pb (xs = ys) = false := pb_false fun e => hzy (by rw [← Hf.out, ← Hg.out, e])
          have Hp := Lib.hid hp
          clear hp hok
          by_cases ex : x = x'
          · subst ex
            by_cases ey : y = y'
            · subst ey
              have ez : (z == z') = false := by
                have : ¬ z = z' := fun e => hzy (by rw [e])
                simpa using this
              clear hzy
              go_wp2_with fail
              go_quiet (fail)
              go_wp2
              go_ret
              exact ⟨by rw [Hp.out]; rfl, drewN_more hd _⟩
            · have ey' : (y == y') = false := by simpa using ey
              clear hzy ey
              go_wp2_with fail
              go_quiet (fail)
              go_wp2
              go_ret
              exact ⟨by rw [Hp.out]; rfl, drewN_more hd _⟩
          · have ex' : (x == x') = false := by simpa using ex
            clear hzy ex
            go_wp2_with fail
            go_quiet (fail)
            go_wp2
            go_ret
            exact ⟨by rw [Hp.out]; rfl, drewN_more hd _⟩
      · have hp : pb (xs = ys) = true := pb_true (flows_of_getD (by rw [H.out, H'.out]) fun j hj => hok.out j (by have := H.out; omega))
        have Hp := Lib.hid hp
        clear hp
        go_wp2
        go_ret
        exact ⟨by rw [Hp.out]; rfl, hd.out⟩
  · have hne : ((n : Int) != (m : Int)) = true := by simp; omega
    have hp : pb (xs = ys) = false := pb_false fun e => hnm' (by rw [← H.out, ← H'.out, e])
    have Hp := Lib.hid hp
    clear hp hnm'
    go_enter Try.func21, Try.ntmps21
    go_wp2
    go_ret
    exact ⟨by rw [Hp.out]; rfl, 0, rfl⟩
set_option maxHeartbeats 1000000 in
theorem equalFlows_any (w : World) (ao : Option Addr) (n cap : Nat) (xs : List F3) (bo : Option Addr) (m cap' : Nat) (ys : List F3) (h : FlowsAt w ao n cap xs) (h' : FlowsAt w bo m cap' ys) :
    Calls Try.prog 43 #[.slice ao n cap, .slice bo m cap'] w fun e w' => e = .returned (.bool (pb (xs = ys))) ∧ ∃ d, w' = w.drewN d := by
  have hl := h.len
  have hl' := h'.len
  have hm := h.max
  have hnm := h.le
  have H := Lib.hid hl
  have H' := Lib.hid hl'
  clear hl hl'
  by_cases hnm' : n = m
  · subst hnm'
    go_enter Try.func43, Try.ntmps43
    go_wp2
    go_loopw [5, 13] (fun u i wr => ∃ k : Nat, k ≤ n ∧ i = .int .i64 k ∧ Hid (∃ d, wr = w.drewN d) ∧ Hid (∀ j, j < k → xs.getD j f0 = ys.getD j f0)) (fun _ i _ => n - (intOf i).toNat)
    case atStart => exact ⟨0, Nat.zero_le _, rfl, ⟨0, rfl⟩, fun j hj => by omega⟩
    case round =>
      obtain ⟨k, hk, rfl, hd, hok⟩ := hrel
      by_cases hlt : k < n
      · obtain ⟨b, off, rfl, hb, c0, c1, c2⟩ := h.at k hlt
        obtain ⟨b', off', rfl, hb', d0, d1, d2⟩ := h'.at k hlt
        rw [← drewN_cell hd] at c0 c1 c2 d0 d1 d2
        obtain ⟨f, hf⟩ : ∃ f, xs.getD k f0 = f := ⟨_, rfl⟩
        obtain ⟨g, hg⟩ : ∃ g, ys.getD k f0 = g := ⟨_, rfl⟩
        rw [hf] at c0 c1 c2
        rw [hg] at d0 d1 d2
        have Hf := Lib.hid hf
        have Hg := Lib.hid hg
        clear hf hg
        obtain ⟨x, y, z⟩ := f
        obtain ⟨x', y', z'⟩ := g
        simp only at c0 c1 c2 d0 d1 d2
        have i0 : (0 : Int) ≤ (k : Int) := by omega
        have i1 : (k : Int) < n := by omega
        by_cases hzy : (x, y, z) = (x', y', z')
        · obtain ⟨rfl, rfl, rfl⟩ : x = x' ∧ y = y' ∧ z = z' := by simpa using hzy
          have NX : Hid (∀ j, j < k + 1 → xs.getD j f0 = ys.getD j f0) := Lib.hid fun j hj => by
            by_cases e : j = k
            · subst e; rw [Hf.out, Hg.out]
            · exact hok.out j (by omega)
          clear hzy hok
          go_wp2_with fail
          go_quiet (fail)
          go_wp2
          go_roundw
          case rel => exact ⟨k + 1, by omega, by go_num, drewN_more hd _, NX⟩
          case measure => simp [intOf]; omega
        · have hp : pb (xs = ys) = false := pb_false fun e => hzy (by rw [← Hf.out, ← Hg.out, e])
          have Hp := Lib.hid hp
          clear hp hok
          by_cases ex : x = x'
          · subst ex
            by_cases ey : y = y'
            · subst ey
              have ez : (z == z') = false := by
                have : ¬ z = z' := fun e => hzy (by rw [e])
                simpa using this
              clear hzy
              go_wp2_with fail
              go_quiet (fail)
              go_wp2
              go_ret
              exact ⟨by rw [Hp.out]; rfl, drewN_more hd _⟩
            · have ey' : (y == y') = false := by simpa using ey
              clear hzy ey
              go_wp2_with fail
              go_quiet (fail)
              go_wp2
              go_ret
              exact ⟨by rw [Hp.out]; rfl, drewN_more hd _⟩
          · have ex' : (x == x') = false := by simpa using ex
            clear hzy ex
            go_wp2_with fail
            go_quiet (fail)
            go_wp2
            go_ret
            exact ⟨by rw [Hp.out]; rfl, drewN_more hd _⟩
      · have hp : pb (xs = ys) = true := pb_true (flows_of_getD (by rw [H.out, H'.out]) fun j hj => hok.out j (by have := H.out; omega))
        have Hp := Lib.hid hp
        clear hp
        go_wp2
        go_ret
        exact ⟨by rw [Hp.out]; rfl, hd.out⟩
  · have hne : ((n : Int) != (m : Int)) = true := by simp; omega
    have hp : pb (xs = ys) = false := pb_false fun e => hnm' (by rw [← H.out, ← H'.out, e])
    have Hp := Lib.hid hp
    clear hp hnm'
    go_enter Try.func43, Try.ntmps43
    go_wp2
    go_ret
    exact ⟨by rw [Hp.out]; rfl, 0, rfl⟩
end Go.Proofs.Ytolifggjblfobaa
