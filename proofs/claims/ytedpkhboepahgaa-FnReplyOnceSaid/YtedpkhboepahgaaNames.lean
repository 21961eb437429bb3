/- Lists of names: areNames, l5Names. -/
import Derived.Test.YtedpkhboepahgaaInts
import Derived.WalkKit
import Derived.Lib.Hide
import Derived.Deep.QuietTactic
import Derived.BigQuiet
namespace Go.Proofs.Ytedpkhboepahgaa
open Go.RowKit
/-- a name -/
def nmB (n : Int) : Bool := inB n 0 7
theorem nmB_iff {n : Int} : nmB n = true ↔ 0 ≤ n ∧ n ≤ 7 := inB_iff
theorem isName_any (n : Int) (w : World) :
    Calls Try.prog 50 #[.int .i64 n] w fun e w' => e = .returned (.bool (nmB n)) ∧ w = w' := by
  go_enter Try.func50, Try.ntmps50
  go_wp2_with (go_at_call 55; refine (within_any _ _ _ _).mono ?_; rintro e w' ⟨rfl, rfl⟩)
  go_ret
  exact ⟨rfl, rfl⟩
/-- all are names -/
def NamesP (rs : List Int) : Prop := ∀ i, i < rs.length → 0 ≤ rs.getD i 0 ∧ rs.getD i 0 ≤ 7
set_option maxHeartbeats 1000000 in
theorem areNames_any (w : World) (ao : Option Addr) (n cap : Nat) (xs : List Int) (h : IntsAt w ao n cap xs) :
    Calls Try.prog 80 #[.slice ao n cap] w fun e w' => e = .returned (.bool (pb (NamesP xs))) ∧ w = w' := by
  have hl := h.len
  have hm := RowAt.max h
  have hnm := RowAt.le h
  have H := Lib.hid hl
  clear hl
  go_enter Try.func80, Try.ntmps80
  go_wp2
  go_loop [4, 7] (fun u i => ∃ k : Nat, k ≤ n ∧ i = .int .i64 k ∧ Hid (∀ j, j < k → 0 ≤ xs.getD j 0 ∧ xs.getD j 0 ≤ 7)) (fun _ i => n - (intOf i).toNat)
  case atStart => exact ⟨0, Nat.zero_le _, rfl, fun j hj => by omega⟩
  case round =>
    obtain ⟨k, hk, rfl, hok⟩ := hrel
    by_cases hlt : k < n
    · obtain ⟨b, off, rfl, hb, hc⟩ := h.addr (by omega)
      obtain ⟨z, hz⟩ : ∃ z, xs.getD k 0 = z := ⟨_, rfl⟩
      have cz := hc k hlt
      rw [hz] at cz
      have Hz := Lib.hid hz
      clear hz hc
      cases hnz : nmB z
      · have Hp := Lib.hid (show pb (NamesP xs) = false from pb_false fun e => by
          have h1 := e k (by have := H.out; omega)
          rw [Hz.out] at h1
          rw [nmB_iff.2 h1] at hnz
          cases hnz)
        have Hn := Lib.hid (show inB z 0 7 = false from hnz)
        have Hn2 := Lib.hid hnz
        clear hnz
        go_wp2_with (go_at_call 50; refine (isName_any z _).mono ?_; rintro e w' ⟨rfl, rfl⟩; (first | rw [Hn2.out] | rw [Hn.out]))
        go_ret
        exact ⟨by rw [Hp.out]; rfl, rfl⟩
      · have Hok := Lib.hid (nmB_iff.1 hnz)
        have Hn := Lib.hid (show inB z 0 7 = true from hnz)
        have Hn2 := Lib.hid hnz
        clear hnz
        go_wp2_with (go_at_call 50; refine (isName_any z _).mono ?_; rintro e w' ⟨rfl, rfl⟩; (first | rw [Hn2.out] | rw [Hn.out]))
        go_round
        case rel => exact ⟨k + 1, by omega, by go_num, fun j hj => by
          by_cases e : j = k
          · subst e; rw [Hz.out]; exact Hok.out
          · exact hok.out j (by omega)⟩
        case measure => simp [intOf]; omega
    · have Hp := Lib.hid (show pb (NamesP xs) = true from pb_true fun j hj => hok.out j (by have := H.out; omega))
      go_wp2
      go_ret
      exact ⟨by rw [Hp.out]; rfl, rfl⟩
set_option maxHeartbeats 1000000 in
theorem l5Names_any (w : World) (ao : Option Addr) (n cap : Nat) (xs : List Int) (h : IntsAt w ao n cap xs) :
    Calls Try.prog 83 #[.slice ao n cap] w fun e w' => e = .returned (.bool (pb (NamesP xs))) ∧ w = w' := by
  have hl := h.len
  have hm := RowAt.max h
  have hnm := RowAt.le h
  have H := Lib.hid hl
  clear hl
  go_enter Try.func83, Try.ntmps83
  go_wp2
  go_loop [3] (fun  i => ∃ k : Nat, k ≤ n ∧ i = .int .i64 k ∧ Hid (∀ j, j < k → 0 ≤ xs.getD j 0 ∧ xs.getD j 0 ≤ 7)) (fun  i => n - (intOf i).toNat)
  case atStart => exact ⟨0, Nat.zero_le _, rfl, fun j hj => by omega⟩
  case round =>
    obtain ⟨k, hk, rfl, hok⟩ := hrel
    by_cases hlt : k < n
    · obtain ⟨b, off, rfl, hb, hc⟩ := h.addr (by omega)
      obtain ⟨z, hz⟩ : ∃ z, xs.getD k 0 = z := ⟨_, rfl⟩
      have cz := hc k hlt
      rw [hz] at cz
      have Hz := Lib.hid hz
      clear hz hc
      cases hnz : nmB z
      · have Hp := Lib.hid (show pb (NamesP xs) = false from pb_false fun e => by
          have h1 := e k (by have := H.out; omega)
          rw [Hz.out] at h1
          rw [nmB_iff.2 h1] at hnz
          cases hnz)
        have Hn := Lib.hid (show inB z 0 7 = false from hnz)
        have Hn2 := Lib.hid hnz
        clear hnz
        go_wp2_with (go_at_call 74; refine (l6In_any z 0 7 _).mono ?_; rintro e w' ⟨rfl, rfl⟩; (first | rw [Hn2.out] | rw [Hn.out]))
        go_ret
        exact ⟨by rw [Hp.out]; rfl, rfl⟩
      · have Hok := Lib.hid (nmB_iff.1 hnz)
        have Hn := Lib.hid (show inB z 0 7 = true from hnz)
        have Hn2 := Lib.hid hnz
        clear hnz
        go_wp2_with (go_at_call 74; refine (l6In_any z 0 7 _).mono ?_; rintro e w' ⟨rfl, rfl⟩; (first | rw [Hn2.out] | rw [Hn.out]))
        go_round
        case rel => exact ⟨k + 1, by omega, by go_num, fun j hj => by
          by_cases e : j = k
          · subst e; rw [Hz.out]; exact Hok.out
          · exact hok.out j (by omega)⟩
        case measure => simp [intOf]; omega
    · have Hp := Lib.hid (show pb (NamesP xs) = true from pb_true fun j hj => hok.out j (by have := H.out; omega))
      go_wp2
      go_ret
      exact ⟨by rw [Hp.out]; rfl, rfl⟩
end Go.Proofs.Ytedpkhboepahgaa
