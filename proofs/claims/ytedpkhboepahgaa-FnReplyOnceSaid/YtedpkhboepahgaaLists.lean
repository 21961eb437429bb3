/- Valid lists: isList, listOf, l2List. -/
import Derived.Test.YtedpkhboepahgaaInts
import Derived.WalkKit
import Derived.Lib.Hide
import Derived.Deep.QuietTactic
import Derived.BigQuiet
namespace Go.Proofs.Ytedpkhboepahgaa
open Go.RowKit
/-- a valid list -/
def ListP (xs : List Int) : Prop := xs.length ≤ 24 ∧ ∀ j, j < xs.length → 0 ≤ xs.getD j 0 ∧ xs.getD j 0 ≤ 990
set_option maxHeartbeats 1000000 in
theorem isList_any (w : World) (ao : Option Addr) (n cap : Nat) (xs : List Int) (h : IntsAt w ao n cap xs) :
    Calls Try.prog 76 #[.slice ao n cap] w fun e w' => e = .returned (.bool (pb (ListP xs))) ∧ w = w' := by
  have hl := h.len
  have hm := RowAt.max h
  have hnm := RowAt.le h
  have H := Lib.hid hl
  clear hl
  by_cases h24 : (24 : Int) < n
  · have Hp := Lib.hid (show pb (ListP xs) = false from pb_false fun e => by have := e.1; have := H.out; omega)
    go_enter Try.func76, Try.ntmps76
    go_wp2
    go_ret
    exact ⟨by rw [Hp.out]; rfl, rfl⟩
  · go_enter Try.func76, Try.ntmps76
    go_wp2
    go_loop [4, 10] (fun u i => ∃ k : Nat, k ≤ n ∧ i = .int .i64 k ∧ Hid (∀ j, j < k → 0 ≤ xs.getD j 0 ∧ xs.getD j 0 ≤ 990)) (fun _ i => n - (intOf i).toNat)
    case atStart => exact ⟨0, Nat.zero_le _, rfl, fun j hj => by omega⟩
    case round =>
      obtain ⟨k, hk, rfl, hok⟩ := hrel
      by_cases hlt : k < n
      · obtain ⟨b, off, rfl, hb, hc⟩ := h.addr (by omega)
        obtain ⟨z, hz⟩ : ∃ z, xs.getD k 0 = z := ⟨_, rfl⟩
        have cz := hc k hlt
        rw [hz] at cz
        have Hz := Lib.hid hz
        clear hz hc
        cases hnz : numB z
        · have Hp := Lib.hid (show pb (ListP xs) = false from pb_false fun e => by
            have h1 := e.2 k (by have := H.out; omega)
            rw [Hz.out] at h1
            rw [numB_iff.2 h1] at hnz
            cases hnz)
          have Hn := Lib.hid hnz
          clear hnz
          go_wp2_with (go_at_call 78; refine (isNumber_any z _).mono ?_; rintro e w' ⟨rfl, rfl⟩; rw [Hn.out])
          go_ret
          exact ⟨by rw [Hp.out]; rfl, rfl⟩
        · have Hok := Lib.hid (numB_iff.1 hnz)
          have Hn := Lib.hid hnz
          clear hnz
          go_wp2_with (go_at_call 78; refine (isNumber_any z _).mono ?_; rintro e w' ⟨rfl, rfl⟩; rw [Hn.out])
          go_round
          case rel => exact ⟨k + 1, by omega, by go_num, fun j hj => by
            by_cases e : j = k
            · subst e; rw [Hz.out]; exact Hok.out
            · exact hok.out j (by omega)⟩
          case measure => simp [intOf]; omega
      · have Hp := Lib.hid (show pb (ListP xs) = true from pb_true ⟨by have := H.out; omega, fun j hj => hok.out j (by have := H.out; omega)⟩)
        go_wp2
        go_ret
        exact ⟨by rw [Hp.out]; rfl, rfl⟩
set_option maxHeartbeats 1000000 in
theorem l2List_any (w : World) (ao : Option Addr) (n cap : Nat) (xs : List Int) (h : IntsAt w ao n cap xs) :
    Calls Try.prog 69 #[.slice ao n cap] w fun e w' => e = .returned (.bool (pb (ListP xs))) ∧ w = w' := by
  have hl := h.len
  have hm := RowAt.max h
  have hnm := RowAt.le h
  have H := Lib.hid hl
  clear hl
  go_enter Try.func69, Try.ntmps69
  go_wp2
  go_loop [3] (fun i => ∃ k : Nat, k ≤ n ∧ i = .int .i64 k ∧ Hid (∀ j, j < k → 0 ≤ xs.getD j 0 ∧ xs.getD j 0 ≤ 990)) (fun i => n - (intOf i).toNat)
  case atStart => exact ⟨0, Nat.zero_le _, rfl, fun j hj => by omega⟩
  case round =>
    obtain ⟨k, hk, rfl, hok⟩ := hrel
    by_cases hlt : k < n
    · obtain ⟨b, off, rfl, hb, hc⟩ := h.addr (by omega)
      obtain ⟨z, hz⟩ : ∃ z, xs.getD k 0 = z := ⟨_, rfl⟩
      have cz := hc k hlt
      rw [hz] at cz
      have Hz := Lib.hid hz
      clear hz hc
      cases hnz : inB z 0 990
      · have Hp := Lib.hid (show pb (ListP xs) = false from pb_false fun e => by
          have h1 := e.2 k (by have := H.out; omega)
          rw [Hz.out] at h1
          rw [inB_iff.2 h1] at hnz
          cases hnz)
        have Hn := Lib.hid hnz
        clear hnz
        go_wp2_with (go_at_call 74; refine (l6In_any z 0 990 _).mono ?_; rintro e w' ⟨rfl, rfl⟩; rw [Hn.out])
        go_ret
        exact ⟨by rw [Hp.out]; rfl, rfl⟩
      · have Hok := Lib.hid (inB_iff.1 hnz)
        have Hn := Lib.hid hnz
        clear hnz
        go_wp2_with (go_at_call 74; refine (l6In_any z 0 990 _).mono ?_; rintro e w' ⟨rfl, rfl⟩; rw [Hn.out])
        go_round
        case rel => exact ⟨k + 1, by omega, by go_num, fun j hj => by
          by_cases e : j = k
          · subst e; rw [Hz.out]; exact Hok.out
          · exact hok.out j (by omega)⟩
        case measure => simp [intOf]; omega
    · have hkn : k = n := by omega
      by_cases h24 : (n : Int) ≤ 24
      · have Hp := Lib.hid (show pb (ListP xs) = true from pb_true ⟨by have := H.out; omega, fun j hj => hok.out j (by have := H.out; omega)⟩)
        clear hkn
        go_wp2
        go_ret
        exact ⟨by rw [Hp.out]; rfl, rfl⟩
      · have Hp := Lib.hid (show pb (ListP xs) = false from pb_false fun e => by have := e.1; have := H.out; omega)
        clear hkn
        go_wp2
        go_ret
        exact ⟨by rw [Hp.out]; rfl, rfl⟩
theorem listOf_any (w : World) (ao : Option Addr) (n cap : Nat) (xs : List Int) (m : Int) (h : IntsAt w ao n cap xs) :
    Calls Try.prog 59 #[.slice ao n cap, .int .i64 m] w fun e w' => e = .returned (.bool (pb ((xs.length : Int) = m ∧ ListP xs))) ∧ w = w' := by
  have hl := h.len
  have hm := RowAt.max h
  have hnm := RowAt.le h
  have H := Lib.hid hl
  clear hl
  by_cases hn : (n : Int) = m
  · have h2 : ((n : Int) == m) = true := by simpa using hn
    have Hp := Lib.hid (show pb ((xs.length : Int) = m ∧ ListP xs) = pb (ListP xs) from pb_congr ⟨fun h => h.2, fun h => ⟨by rw [H.out]; exact hn, h⟩⟩)
    clear hn
    go_enter Try.func59, Try.ntmps59
    go_wp2_with (go_at_call 76; refine (isList_any _ _ _ _ _ h).mono ?_; rintro e w' ⟨rfl, rfl⟩; rw [← Hp.out])
    go_ret
    exact ⟨rfl, rfl⟩
  · have h2 : ((n : Int) == m) = false := by simpa using hn
    have Hp := Lib.hid (show pb ((xs.length : Int) = m ∧ ListP xs) = false from pb_false fun e => hn (by rw [← e.1, H.out]))
    clear hn
    go_enter Try.func59, Try.ntmps59
    go_wp2
    go_ret
    exact ⟨by rw [Hp.out]; rfl, rfl⟩
end Go.Proofs.Ytedpkhboepahgaa
