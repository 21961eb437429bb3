/- Valid lists of spent serial numbers. -/
import Derived.Test.YtppkbmlbggokkaaDoorInts
import Derived.WalkKit
import Derived.Lib.Hide
import Derived.Deep.QuietTactic
import Derived.BigQuiet
namespace Go.Proofs.YtppkbmlbggokkaaDoor
open Go.RowKit
def OkAt (xs : List Int) (i : Nat) : Prop := 0 ≤ xs.getD i 0 ∧ xs.getD i 0 ≤ 990 ∧ (0 < i → xs.getD (i - 1) 0 < xs.getD i 0)
/-- valid spent serial numbers -/
def SpentP (xs : List Int) : Prop := xs.length ≤ 20 ∧ ∀ i, i < xs.length → OkAt xs i
theorem spent_step {xs : List Int} {k : Nat} (h : ∀ i, i < k → OkAt xs i) (hk : OkAt xs k) : ∀ i, i < k + 1 → OkAt xs i := by
  intro i hi
  by_cases e : i = k
  · subst e; exact hk
  · exact h i (by omega)
set_option maxHeartbeats 1000000 in
theorem isSpent_any (w : World) (ao : Option Addr) (n cap : Nat) (xs : List Int) (h : IntsAt w ao n cap xs) :
    Calls Tryd.prog 25 #[.slice ao n cap] w fun e w' => e = .returned (.bool (pb (SpentP xs))) ∧ w = w' := by
  have hl := h.len
  have hm := RowAt.max h
  by_cases h20 : n ≤ 20
  · have H := Lib.hid hl
    clear hl
    go_enter Tryd.func25, Tryd.ntmps25
    go_wp2
    go_loop [10] (fun i => ∃ k : Nat, k ≤ n ∧ i = .int .i64 k ∧ Hid (∀ j, j < k → OkAt xs j)) (fun i => n - (intOf i).toNat)
    case atStart => exact ⟨0, Nat.zero_le _, rfl, fun j hj => by omega⟩
    case round =>
      obtain ⟨k, hk, rfl, hok⟩ := hrel
      by_cases hlt : k < n
      · obtain ⟨b, off, rfl, hb, hc⟩ := h.addr (by omega)
        obtain ⟨z, hz⟩ : ∃ z, xs.getD k 0 = z := ⟨_, rfl⟩
        obtain ⟨y, hy⟩ : ∃ y, xs.getD (k - 1) 0 = y := ⟨_, rfl⟩
        have cz := hc k hlt
        have cy := hc (k - 1) (by omega)
        rw [hz] at cz
        rw [hy] at cy
        have Hz := Lib.hid hz
        have Hy := Lib.hid hy
        clear hz hy hc
        have fin : ∀ P : Prop, (¬ P) → (OkAt xs k → P) → pb (SpentP xs) = false := fun P h1 h2 => pb_false fun hs => h1 (h2 (hs.2 k (by have := H.out; omega)))
        have Hf := Lib.hid fin
        clear fin
        cases hn : numB z
        · have hn' := inB_false.1 hn
          have K := Lib.hid hn
          clear hn
          go_wp2_with (go_at_call 36; refine (isNumber_any _ _).mono ?_; rintro e w' ⟨rfl, rfl⟩; rw [K.out])
          go_ret
          exact ⟨by rw [Hf.out _ hn' (fun o => by have e := Hz.out; rw [← e]; exact ⟨o.1, o.2.1⟩)]; rfl, rfl⟩
        · have hn' := inB_iff.1 hn
          have K := Lib.hid hn
          clear hn
          by_cases h0 : 0 < k
          · by_cases hyz : z ≤ y
            · go_wp2_with (go_at_call 36; refine (isNumber_any _ _).mono ?_; rintro e w' ⟨rfl, rfl⟩; rw [K.out])
              go_ret
              exact ⟨by rw [Hf.out (y < z) (by omega) (fun o => by rw [← Hz.out, ← Hy.out]; exact o.2.2 h0)]; rfl, rfl⟩
            · go_wp2_with (go_at_call 36; refine (isNumber_any _ _).mono ?_; rintro e w' ⟨rfl, rfl⟩; rw [K.out])
              go_round
              case rel => exact ⟨k + 1, by omega, by go_num, spent_step hok.out ⟨by rw [Hz.out]; exact hn'.1, by rw [Hz.out]; exact hn'.2, fun _ => by rw [Hz.out, Hy.out]; omega⟩⟩
              case measure => simp [intOf]; omega
          · go_wp2_with (go_at_call 36; refine (isNumber_any _ _).mono ?_; rintro e w' ⟨rfl, rfl⟩; rw [K.out])
            go_round
            case rel => exact ⟨k + 1, by omega, by go_num, spent_step hok.out ⟨by rw [Hz.out]; exact hn'.1, by rw [Hz.out]; exact hn'.2, fun a => absurd a h0⟩⟩
            case measure => simp [intOf]; omega
      · go_wp2
        go_ret
        exact ⟨by rw [pb_true ⟨by have := H.out; omega, fun i hi => hok.out i (by have := H.out; omega)⟩]; rfl, rfl⟩
  · have hp : pb (SpentP xs) = false := pb_false fun hs => h20 (by have := hs.1; omega)
    have H := Lib.hid hp
    clear hp hl
    go_enter Tryd.func25, Tryd.ntmps25
    go_wp2
    go_ret
    exact ⟨by rw [H.out]; rfl, rfl⟩
set_option maxHeartbeats 1000000 in
theorem l31Spent_any (w : World) (ao : Option Addr) (n cap : Nat) (xs : List Int) (h : IntsAt w ao n cap xs) :
    Calls Tryd.prog 28 #[.slice ao n cap] w fun e w' => e = .returned (.bool (pb (SpentP xs))) ∧ ∃ m, w' = w.drewN m := by
  have hl := h.len
  have hm := RowAt.max h
  have hnm := RowAt.le h
  have H := Lib.hid hl
  clear hl
  go_enter Tryd.func28, Tryd.ntmps28
  go_wp2
  go_loopw [3] (fun i wr => ∃ k : Nat, k ≤ n ∧ i = .int .i64 k ∧ Hid (∃ m, wr = w.drewN m) ∧ Hid (∀ j, j < k → OkAt xs j)) (fun i _ => n - (intOf i).toNat)
  case atStart => exact ⟨0, Nat.zero_le _, rfl, ⟨0, rfl⟩, fun j hj => by omega⟩
  case round =>
    obtain ⟨k, hk, rfl, hd, hok⟩ := hrel
    by_cases hlt : k < n
    · obtain ⟨b, off, rfl, hb, hc⟩ := h.addr (by omega)
      obtain ⟨z, hz⟩ : ∃ z, xs.getD k 0 = z := ⟨_, rfl⟩
      obtain ⟨y, hy⟩ : ∃ y, xs.getD (k - 1) 0 = y := ⟨_, rfl⟩
      have cz := hc k hlt
      have cy := hc (k - 1) (by omega)
      rw [hz] at cz
      rw [hy] at cy
      rw [← drewN_cell hd] at cz cy
      have Hz := Lib.hid hz
      have Hy := Lib.hid hy
      clear hz hy hc
      have fin : ∀ P : Prop, (¬ P) → (OkAt xs k → P) → pb (SpentP xs) = false := fun P h1 h2 => pb_false fun hs => h1 (h2 (hs.2 k (by have := H.out; omega)))
      have Hf := Lib.hid fin
      clear fin
      have i0 : (0 : Int) ≤ (k : Int) := by omega
      have i1 : (k : Int) < n := by omega
      cases hn : numB z
      · have hn' := inB_false.1 hn
        have K := Lib.hid hn
        clear hn
        go_wp2_with fail
        go_quiet (with_reducible exact quiet1 (l31Serial_any z _) (congrArg Value.bool K.out))
        go_wp2
        go_ret
        exact ⟨by rw [Hf.out _ hn' (fun o => by have e := Hz.out; rw [← e]; exact ⟨o.1, o.2.1⟩)]; rfl, drewN_more hd _⟩
      · have hn' := inB_iff.1 hn
        have K := Lib.hid hn
        clear hn
        by_cases h0 : 0 < k
        · have i2 : (0 : Int) < (k : Int) := by omega
          have i3 : (0 : Int) ≤ (k : Int) - 1 := by omega
          have i4 : (k : Int) - 1 < n := by omega
          have hw1 := Lib.hid (IntWalk.i64_in ((k : Int) - 1) (by omega))
          have hw2 := Lib.hid (show ((k : Int) - 1).toNat = k - 1 by omega)
          by_cases hyz : z ≤ y
          · have W1 := hw1.out
            have W2 := hw2.out
            go_wp2_with fail
            go_quiet (with_reducible exact quiet1 (l31Serial_any z _) (congrArg Value.bool K.out))
            clear W1 W2
            go_wp2
            go_ret
            exact ⟨by rw [Hf.out (y < z) (by omega) (fun o => by rw [← Hz.out, ← Hy.out]; exact o.2.2 h0)]; rfl, drewN_more hd _⟩
          · have hyz' : y < z := by omega
            have W1 := hw1.out
            have W2 := hw2.out
            go_wp2_with fail
            go_quiet (with_reducible exact quiet1 (l31Serial_any z _) (congrArg Value.bool K.out))
            clear W1 W2
            go_wp2
            go_roundw
            case rel => exact ⟨k + 1, by omega, by go_num, drewN_more hd _, spent_step hok.out ⟨by rw [Hz.out]; exact hn'.1, by rw [Hz.out]; exact hn'.2, fun _ => by rw [Hz.out, Hy.out]; omega⟩⟩
            case measure => simp [intOf]; omega
        · have i2 : decide ((0 : Int) < (k : Int)) = false := by simp; omega
          go_wp2_with fail
          go_quiet (with_reducible exact quiet1 (l31Serial_any z _) (congrArg Value.bool K.out))
          go_wp2
          go_roundw
          case rel => exact ⟨k + 1, by omega, by go_num, drewN_more hd _, spent_step hok.out ⟨by rw [Hz.out]; exact hn'.1, by rw [Hz.out]; exact hn'.2, fun a => absurd a h0⟩⟩
          case measure => simp [intOf]; omega
    · by_cases h20 : (n : Int) ≤ 20
      · go_wp2
        go_ret
        exact ⟨by rw [pb_true ⟨by have := H.out; omega, fun i hi => hok.out i (by have := H.out; omega)⟩]; rfl, hd⟩
      · have hp : pb (SpentP xs) = false := pb_false fun hs => h20 (by have := hs.1; have := H.out; omega)
        have Hp := Lib.hid hp
        have h20' : decide ((n : Int) ≤ 20) = false := by simpa using h20
        clear hp h20
        go_wp2
        go_ret
        exact ⟨by rw [Hp.out]; rfl, hd⟩
end Go.Proofs.YtppkbmlbggokkaaDoor
