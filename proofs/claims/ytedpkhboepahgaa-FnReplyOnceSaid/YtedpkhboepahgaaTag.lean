/- Tags. -/
import Derived.Test.YtedpkhboepahgaaMaskP
import Derived.WalkKit
import Derived.Lib.Hide
import Derived.Deep.QuietTactic
import Derived.BigQuiet
namespace Go.Proofs.Ytedpkhboepahgaa
open Go.RowKit
set_option maxHeartbeats 1000000 in
theorem absorb_any (t : Int) (w : World) (ao : Option Addr) (n cap : Nat) (xs : List Int) (ht : 0 ≤ t ∧ t ≤ 990) (h : IntsAt w ao n cap xs) (hp : ListP xs) :
    Calls Try.prog 94 #[.int .i64 t, .slice ao n cap] w fun e w' => e = .returned (.int .i64 (absL t xs)) ∧ w = w' := by
  have hm := RowAt.max h
  have hnm := RowAt.le h
  have H := Lib.hid h.len
  have HA := Lib.hid h
  have HP := Lib.hid hp
  clear h hp
  go_enter Try.func94, Try.ntmps94
  go_wp2_with fail
  go_loop [0, 6, 9] (fun t0 u i => ∃ j : Nat, j ≤ n ∧ i = .int .i64 j ∧ t0 = .int .i64 (absL t (xs.take j))) (fun t0 u i => n - (intOf i).toNat)
  case atStart => exact ⟨0, by omega, rfl, rfl⟩
  case round =>
    obtain ⟨j, hj, rfl, rfl⟩ := hrel
    obtain ⟨r0, r1⟩ := absL_range (t := t) ht (xs.take j)
    by_cases hlt : j < n
    · obtain ⟨b, off, rfl, -, hc⟩ := IntsAt.addr HA.out (by omega)
      have cx := hc j hlt
      obtain ⟨x0, x1⟩ := HP.out.2 j (by have := H.out; omega)
      have NX := Lib.hid (absL_step (t := t) (xs := xs) (j := j) (by have := H.out; omega))
      obtain ⟨x, hx⟩ : ∃ x, xs.getD j 0 = x := ⟨_, rfl⟩
      obtain ⟨y, hy⟩ : ∃ y, absL t (xs.take j) = y := ⟨_, rfl⟩
      rw [hx] at cx x0 x1 NX
      rw [hy] at r0 r1 NX ⊢
      clear hc hx hy
      go_wp2_with fail
      go_round
      case rel => exact ⟨j + 1, by omega, by go_num, by rw [NX.out]⟩
      case measure => simp [intOf]; omega
    · have hjn : j = n := by omega
      subst hjn
      have E := Lib.hid (show absL t (xs.take j) = absL t xs by rw [List.take_of_length_le (by have := H.out; omega)])
      rw [E.out]
      go_wp2_with fail
      go_ret
      exact ⟨rfl, rfl⟩
theorem tagOf_any (k : Int) (w : World) (ao : Option Addr) (n cap : Nat) (xs : List Int) (hk : 1 ≤ k ∧ k ≤ 996) (h : IntsAt w ao n cap xs) (hp : ListP xs) :
    Calls Try.prog 77 #[.int .i64 k, .slice ao n cap] w fun e w' => e = .returned (.int .i64 (tagL k xs)) ∧ w = w' := by
  have hm := RowAt.max h
  have hnm := RowAt.le h
  have H := Lib.hid h.len
  have hn : n ≤ 24 := by have := hp.1; have := H.out; omega
  have PL := Lib.hid (pb_true hp)
  have EK := Lib.hid (elB_iff.2 hk)
  have T := Lib.hid (show tagL k xs = absL (tag0 k n) xs by unfold tagL; rw [H.out])
  have T0 := Lib.hid (show (3 * k + 41 * (n : Int) + 1) % 991 = tag0 k n from rfl)
  have TR := Lib.hid (tag0_range k n)
  go_enter Try.func77, Try.ntmps77
  go_wp2_with (first | (go_at_call 51; refine (isElement_any _ _).mono ?_; rintro e w' ⟨rfl, rfl⟩; rw [EK.out]) | (go_at_call 76; refine (isList_any _ _ _ _ xs h).mono ?_; rintro e w' ⟨rfl, rfl⟩; rw [PL.out]))
  go_at_call 94
  rw [T0.out]
  refine (absorb_any _ _ _ _ _ xs TR.out h hp).mono ?_
  rintro e w' ⟨rfl, rfl⟩
  rw [← T.out]
  go_wp2
  go_ret
  exact ⟨rfl, rfl⟩
theorem tagCheck_any (k : Int) (w : World) (ao : Option Addr) (n cap : Nat) (xs : List Int) (t : Int) (hk : 1 ≤ k ∧ k ≤ 996) (h : IntsAt w ao n cap xs) (hp : ListP xs) (ht : 0 ≤ t) :
    Calls Try.prog 54 #[.int .i64 k, .slice ao n cap, .int .i64 t] w fun e w' => e = .returned (.bool (t == tagL k xs)) ∧ w = w' := by
  go_enter Try.func54, Try.ntmps54
  go_wp2_with (go_at_call 77; refine (tagOf_any _ _ _ _ _ xs hk h hp).mono ?_; rintro e w' ⟨rfl, rfl⟩)
  go_ret
  exact ⟨rfl, rfl⟩
set_option maxHeartbeats 1000000 in
theorem l3Tag_any (k : Int) (w : World) (ao : Option Addr) (n cap : Nat) (xs : List Int) (hk : 1 ≤ k ∧ k ≤ 996) (h : IntsAt w ao n cap xs) (hp : ListP xs) :
    Calls Try.prog 91 #[.int .i64 k, .slice ao n cap] w fun e w' => e = .returned (.int .i64 (tagL k xs)) ∧ w = w' := by
  have hm := RowAt.max h
  have hnm := RowAt.le h
  have H := Lib.hid h.len
  have HA := Lib.hid h
  have HP := Lib.hid hp
  have hn : n ≤ 24 := by have := hp.1; have := H.out; omega
  obtain ⟨t, htt⟩ : ∃ t, tag0 k n = t := ⟨_, rfl⟩
  have ht : 0 ≤ t ∧ t ≤ 990 := by rw [← htt]; exact tag0_range _ _
  have T0 := Lib.hid (show (3 * k + 41 * (n : Int) + 1) % 991 = t from htt)
  have T := Lib.hid (show tagL k xs = absL t xs by unfold tagL; rw [H.out, htt])
  clear h hp htt
  rw [T.out]
  go_enter Try.func91, Try.ntmps91
  go_wp2_with fail
  rw [T0.out]
  go_loop [5, 6] (fun t0 i => ∃ j : Nat, j ≤ n ∧ i = .int .i64 j ∧ t0 = .int .i64 (absL t (xs.take j))) (fun t0 i => n - (intOf i).toNat)
  case atStart => exact ⟨0, by omega, rfl, rfl⟩
  case round =>
    obtain ⟨j, hj, rfl, rfl⟩ := hrel
    obtain ⟨r0, r1⟩ := absL_range (t := t) ht (xs.take j)
    by_cases hlt : j < n
    · obtain ⟨b, off, rfl, -, hc⟩ := IntsAt.addr HA.out (by omega)
      have cx := hc j hlt
      obtain ⟨x0, x1⟩ := HP.out.2 j (by have := H.out; omega)
      have NX := Lib.hid (absL_step (t := t) (xs := xs) (j := j) (by have := H.out; omega))
      obtain ⟨x, hx⟩ : ∃ x, xs.getD j 0 = x := ⟨_, rfl⟩
      obtain ⟨y, hy⟩ : ∃ y, absL t (xs.take j) = y := ⟨_, rfl⟩
      rw [hx] at cx x0 x1 NX
      rw [hy] at r0 r1 NX ⊢
      clear hc hx hy
      go_wp2_with fail
      go_round
      case rel => exact ⟨j + 1, by omega, by go_num, by rw [NX.out]⟩
      case measure => simp [intOf]; omega
    · have hjn : j = n := by omega
      subst hjn
      have E := Lib.hid (show absL t (xs.take j) = absL t xs by rw [List.take_of_length_le (by have := H.out; omega)])
      rw [E.out]
      go_wp2_with fail
      go_ret
      exact ⟨rfl, rfl⟩
end Go.Proofs.Ytedpkhboepahgaa
