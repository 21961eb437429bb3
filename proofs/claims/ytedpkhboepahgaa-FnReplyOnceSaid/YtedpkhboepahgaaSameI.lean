/- sameInts of the program. -/
import Derived.Test.YtedpkhboepahgaaInts
import Derived.WalkKit
import Derived.Lib.Hide
import Derived.Deep.QuietTactic
import Derived.BigQuiet
namespace Go.Proofs.Ytedpkhboepahgaa
open Go.RowKit
set_option maxHeartbeats 1000000 in
theorem sameInts_impl (w : World) (ao : Option Addr) (n cap : Nat) (xs : List Int) (bo : Option Addr) (m cap' : Nat) (ys : List Int) (h : IntsAt w ao n cap xs) (h' : IntsAt w bo m cap' ys) :
    Calls Try.prog 73 #[.slice ao n cap, .slice bo m cap'] w fun e w' => e = .returned (.bool (pb (xs = ys))) ∧ ∃ d, w' = w.drewN d := by
  have hl := h.len
  have hl' := h'.len
  have hm := RowAt.max h
  have hnm := RowAt.le h
  have H := Lib.hid hl
  have H' := Lib.hid hl'
  clear hl hl'
  by_cases hnm' : n = m
  · subst hnm'
    go_enter Try.func73, Try.ntmps73
    go_wp2
    go_loopw [5, 13] (fun u i wr => ∃ k : Nat, k ≤ n ∧ i = .int .i64 k ∧ Hid (∃ d, wr = w.drewN d) ∧ Hid (∀ j, j < k → xs.getD j 0 = ys.getD j 0)) (fun _ i _ => n - (intOf i).toNat)
    case atStart => exact ⟨0, Nat.zero_le _, rfl, ⟨0, rfl⟩, fun j hj => by omega⟩
    case round =>
      obtain ⟨k, hk, rfl, hd, hok⟩ := hrel
      by_cases hlt : k < n
      · obtain ⟨b, off, rfl, hb, hc⟩ := h.addr (by omega)
        obtain ⟨b', off', rfl, hb', hc'⟩ := h'.addr (by omega)
        obtain ⟨z, hz⟩ : ∃ z, xs.getD k 0 = z := ⟨_, rfl⟩
        obtain ⟨y, hy⟩ : ∃ y, ys.getD k 0 = y := ⟨_, rfl⟩
        have cz := hc k hlt
        have cy := hc' k hlt
        rw [hz] at cz
        rw [hy] at cy
        rw [← drewN_cell hd] at cz cy
        have Hz := Lib.hid hz
        have Hy := Lib.hid hy
        clear hz hc hy hc'
        have i0 : (0 : Int) ≤ (k : Int) := by omega
        have i1 : (k : Int) < n := by omega
        by_cases hzy : z = y
        · have hzy' : (z != y) = false := by simpa using hzy
          have Hzy := Lib.hid hzy
          clear hzy
          go_wp2_with fail
          go_quiet (fail)
          go_wp2
          go_roundw
          case rel => exact ⟨k + 1, by omega, by go_num, drewN_more hd _, fun j hj => by
            by_cases e : j = k
            · subst e; rw [Hz.out, Hy.out]; exact Hzy.out
            · exact hok.out j (by omega)⟩
          case measure => simp [intOf]; omega
        · have hzy' : (z != y) = true := by simpa using hzy
          have hp : pb (xs = ys) = false := pb_false fun e => hzy (by rw [← Hz.out, ← Hy.out, e])
          have Hp := Lib.hid hp
          clear hzy hp
          go_wp2_with fail
          go_quiet (fail)
          go_wp2
          go_ret
          exact ⟨by rw [Hp.out]; rfl, drewN_more hd _⟩
      · have hp : pb (xs = ys) = true := pb_true (same_of_getD (by rw [H.out, H'.out]) fun j hj => hok.out j (by have := H.out; omega))
        have Hp := Lib.hid hp
        clear hp
        go_wp2
        go_ret
        exact ⟨by rw [Hp.out]; rfl, hd.out⟩
  · have hne : ((n : Int) != (m : Int)) = true := by simp; omega
    have hp : pb (xs = ys) = false := pb_false fun e => hnm' (by rw [← H.out, ← H'.out, e])
    have Hp := Lib.hid hp
    clear hp hnm'
    go_enter Try.func73, Try.ntmps73
    go_wp2
    go_ret
    exact ⟨by rw [Hp.out]; rfl, 0, rfl⟩
end Go.Proofs.Ytedpkhboepahgaa
