/- The stream of a key, masks on and off. -/
import Derived.Test.YtedpkhboepahgaaMaskP
import Derived.Test.YtedpkhboepahgaaStep
import Derived.WalkKit
import Derived.Lib.Hide
import Derived.Deep.QuietTactic
import Derived.BigQuiet
import Derived.Deep.RegionHeld3
namespace Go.Proofs.Ytedpkhboepahgaa
open Go.RowKit
theorem stream_any (k : Int) (i : Nat) (w : World) (hk : 1 ≤ k ∧ k ≤ 996) (hi : i ≤ 100) :
    Calls Try.prog 93 #[.int .i64 k, .int .i64 (i : Int)] w fun e w' => e = .returned (.int .i64 (strm k i)) ∧ w = w' := by
  have H := Lib.hid (show strm k i = (k * ((i : Int) + 2) + 11 * (i : Int) * (i : Int) + 5) % 991 from rfl)
  have a0 : 0 ≤ k * ((i : Int) + 2) := Int.mul_nonneg (by omega) (by omega)
  have a1 : k * ((i : Int) + 2) ≤ 996 * 102 := Int.mul_le_mul (by omega) (by omega) (by omega) (by omega)
  have b0 : 0 ≤ 11 * (i : Int) * (i : Int) := Int.mul_nonneg (by omega) (by omega)
  have b1 : 11 * (i : Int) * (i : Int) ≤ 1100 * 100 := Int.mul_le_mul (by omega) (by omega) (by omega) (by omega)
  go_enter Try.func93, Try.ntmps93
  go_wp2
  go_ret
  exact ⟨by rw [H.out]; rfl, rfl⟩
theorem l2At_any (k : Int) (i : Nat) (w : World) (hk : 1 ≤ k ∧ k ≤ 996) (hi : i ≤ 100) :
    Calls Try.prog 92 #[.int .i64 k, .int .i64 (i : Int)] w fun e w' => e = .returned (.int .i64 (strm k i)) ∧ w = w' := by
  have H := Lib.hid (show strm k i = (k * ((i : Int) + 2) + 11 * (i : Int) * (i : Int) + 5) % 991 from rfl)
  have a0 : 0 ≤ k * ((i : Int) + 2) := Int.mul_nonneg (by omega) (by omega)
  have a1 : k * ((i : Int) + 2) ≤ 996 * 102 := Int.mul_le_mul (by omega) (by omega) (by omega) (by omega)
  have b0 : 0 ≤ 11 * (i : Int) * (i : Int) := Int.mul_nonneg (by omega) (by omega)
  have b1 : 11 * (i : Int) * (i : Int) ≤ 1100 * 100 := Int.mul_le_mul (by omega) (by omega) (by omega) (by omega)
  go_enter Try.func92, Try.ntmps92
  go_wp2
  go_ret
  exact ⟨by rw [H.out]; rfl, rfl⟩
theorem still_of {P : Program} {f : FuncId} {args : Array Value} {w : World} {v : Value} (h : Calls P f args w fun e w' => e = .returned v ∧ w = w') : Calls P f args w fun e w' => e = .returned v ∧ w' = w :=
  h.mono fun _ _ ⟨a, b⟩ => ⟨a, b.symm⟩
theorem le_refl_n (n : Nat) : n ≤ n := Nat.le_refl n
set_option maxHeartbeats 1000000 in
theorem maskedOn_any (w : World) (ao : Option Addr) (n cap : Nat) (xs : List Int) (k : Int) (h : IntsAt w ao n cap xs) (hp : ListP xs) (hk : 1 ≤ k ∧ k ≤ 996) :
    Calls Try.prog 72 #[.slice ao n cap, .int .i64 k, .int .i64 (1)] w (IntsPost w (onL xs k)) := by
  have hl := h.len
  have hm := RowAt.max h
  have hnm := RowAt.le h
  have hn : n ≤ 24 := by have := hp.1; omega
  have H := Lib.hid hl
  have HA := Lib.hid h
  have HP := Lib.hid hp
  have PL := Lib.hid (pb_true hp)
  have EK := Lib.hid (elB_iff.2 hk)
  have hz := Lib.hid (le_refl_n w.heap.size)
  clear hl h hp
  go_enter Try.func72, Try.ntmps72
  go_wp2_with (first | (go_at_call 76; refine (isList_any _ _ _ _ xs HA.out).mono ?_; rintro e w' ⟨rfl, rfl⟩; rw [PL.out]) | (go_at_call 51; refine (isElement_any _ _).mono ?_; rintro e w' ⟨rfl, rfl⟩; rw [EK.out]))
  have O0 := Lib.hid (own_nil w.heap.size w (Nat.le_refl _))
  have G0 := Lib.hid (grown_alloc w (.cells #[] 3) none)
  go_loopw [7, 8, 9, 21] (fun v u t i wr => ∃ j : Nat, ∃ zs : List Int, j ≤ n ∧ i = .int .i64 j ∧ Hid (zs = onL (xs.take j) k) ∧ zs.length = j ∧ Hid (OwnI w.heap.size wr v zs) ∧ Hid (w.grownBy wr none)) (fun _ _ _ i _ => n - (intOf i).toNat)
  case atStart => exact ⟨0, [], by omega, rfl, Lib.hid rfl, rfl, O0, G0⟩
  case round =>
    clear O0 G0
    obtain ⟨j, zs, hj, rfl, hzs, hzl, ho, hg⟩ := hrel
    have HZ := Lib.hid hzl
    clear hzl
    by_cases hlt : j < n
    · obtain ⟨b, off, rfl, -, hc⟩ := IntsAt.addr (HA.out.grown hg.out) (by omega)
      have cx := hc j hlt
      have xb := HP.out.2 j (by have := H.out; omega)
      obtain ⟨x, hx⟩ : ∃ x, xs.getD j 0 = x := ⟨_, rfl⟩
      rw [hx] at cx xb
      obtain ⟨x0, x1⟩ := xb
      obtain ⟨s0, s1⟩ := strm_range k j
      obtain ⟨s, hs⟩ : ∃ s, strm k j = s := ⟨_, rfl⟩
      rw [hs] at s0 s1
      have NX : Hid (∀ y : Int, y = (x + s) % 991 → onL (xs.take (j + 1)) k = zs ++ [y]) := Lib.hid (fun y e => by
        rw [onL_step (by have := H.out; omega), hx, hs, hzs.out, e])
      have HS := Lib.hid hs
      clear hc hx hs
      go_wp2_with (first | (go_at_call 93; refine (stream_any k j _ hk (by omega)).mono ?_; rintro e w5 ⟨rfl, rfl⟩; rw [HS.out]) | (at_builtin; refine app_ints rfl (.tmp 26) (.tmp 36) rfl (OwnI.grown ho.out (grown_alloc _ _ none)) (one_int _ _) rfl rfl (gAlloc hg.out _).size (by rw [HZ.out]; simp; omega) ?_; intro v3 w3 o3 g3))
      have O3 := Lib.hid (own_eq o3 (NX.out _ (by omega)))
      have G3 := Lib.hid (grown_own (gAlloc hg.out _) (OwnI.grown ho.out (grown_alloc _ _ none)) g3 (Nat.le_refl _))
      clear o3 g3 ho hg
      go_wp2
      go_roundw
      case rel => exact ⟨j + 1, onL (xs.take (j + 1)) k, by omega, by go_num, Lib.hid rfl, by rw [show (onL (xs.take (j + 1)) k).length = (xs.take (j + 1)).length by simp [onL]]; simp; have := H.out; omega, O3, G3⟩
      case measure => simp [intOf]; omega
    · have hjn : j = n := by omega
      subst hjn
      have O3 := Lib.hid (own_eq ho.out (show onL xs k = zs by rw [hzs.out, List.take_of_length_le (by have := H.out; omega)]))
      have G3 := Lib.hid hg.out
      obtain ⟨a3, c3, rfl, -, -⟩ := OwnI.shape O3.out
      clear ho hg
      go_wp2
      go_ret
      exact ints_post O3.out G3.out
set_option maxHeartbeats 1000000 in
theorem maskedOff_any (w : World) (ao : Option Addr) (n cap : Nat) (xs : List Int) (k : Int) (h : IntsAt w ao n cap xs) (hp : ListP xs) (hk : 1 ≤ k ∧ k ≤ 996) :
    Calls Try.prog 72 #[.slice ao n cap, .int .i64 k, .int .i64 (-1)] w (IntsPost w (offL xs k)) := by
  have hl := h.len
  have hm := RowAt.max h
  have hnm := RowAt.le h
  have hn : n ≤ 24 := by have := hp.1; omega
  have H := Lib.hid hl
  have HA := Lib.hid h
  have HP := Lib.hid hp
  have PL := Lib.hid (pb_true hp)
  have EK := Lib.hid (elB_iff.2 hk)
  have hz := Lib.hid (le_refl_n w.heap.size)
  clear hl h hp
  go_enter Try.func72, Try.ntmps72
  go_wp2_with (first | (go_at_call 76; refine (isList_any _ _ _ _ xs HA.out).mono ?_; rintro e w' ⟨rfl, rfl⟩; rw [PL.out]) | (go_at_call 51; refine (isElement_any _ _).mono ?_; rintro e w' ⟨rfl, rfl⟩; rw [EK.out]))
  have O0 := Lib.hid (own_nil w.heap.size w (Nat.le_refl _))
  have G0 := Lib.hid (grown_alloc w (.cells #[] 3) none)
  go_loopw [7, 8, 9, 21] (fun v u t i wr => ∃ j : Nat, ∃ zs : List Int, j ≤ n ∧ i = .int .i64 j ∧ Hid (zs = offL (xs.take j) k) ∧ zs.length = j ∧ Hid (OwnI w.heap.size wr v zs) ∧ Hid (w.grownBy wr none)) (fun _ _ _ i _ => n - (intOf i).toNat)
  case atStart => exact ⟨0, [], by omega, rfl, Lib.hid rfl, rfl, O0, G0⟩
  case round =>
    clear O0 G0
    obtain ⟨j, zs, hj, rfl, hzs, hzl, ho, hg⟩ := hrel
    have HZ := Lib.hid hzl
    clear hzl
    by_cases hlt : j < n
    · obtain ⟨b, off, rfl, -, hc⟩ := IntsAt.addr (HA.out.grown hg.out) (by omega)
      have cx := hc j hlt
      have xb := HP.out.2 j (by have := H.out; omega)
      obtain ⟨x, hx⟩ : ∃ x, xs.getD j 0 = x := ⟨_, rfl⟩
      rw [hx] at cx xb
      obtain ⟨x0, x1⟩ := xb
      obtain ⟨s0, s1⟩ := strm_range k j
      obtain ⟨s, hs⟩ : ∃ s, strm k j = s := ⟨_, rfl⟩
      rw [hs] at s0 s1
      have NX : Hid (∀ y : Int, y = (x + 991 - s) % 991 → offL (xs.take (j + 1)) k = zs ++ [y]) := Lib.hid (fun y e => by
        rw [offL_step (by have := H.out; omega), hx, hs, hzs.out, e])
      have HS := Lib.hid hs
      clear hc hx hs
      go_wp2_with (first | (go_at_call 93; refine (stream_any k j _ hk (by omega)).mono ?_; rintro e w5 ⟨rfl, rfl⟩; rw [HS.out]) | (at_builtin; refine app_ints rfl (.tmp 26) (.tmp 36) rfl (OwnI.grown ho.out (grown_alloc _ _ none)) (one_int _ _) rfl rfl (gAlloc hg.out _).size (by rw [HZ.out]; simp; omega) ?_; intro v3 w3 o3 g3))
      have O3 := Lib.hid (own_eq o3 (NX.out _ (by omega)))
      have G3 := Lib.hid (grown_own (gAlloc hg.out _) (OwnI.grown ho.out (grown_alloc _ _ none)) g3 (Nat.le_refl _))
      clear o3 g3 ho hg
      go_wp2
      go_roundw
      case rel => exact ⟨j + 1, offL (xs.take (j + 1)) k, by omega, by go_num, Lib.hid rfl, by rw [show (offL (xs.take (j + 1)) k).length = (xs.take (j + 1)).length by simp [offL]]; simp; have := H.out; omega, O3, G3⟩
      case measure => simp [intOf]; omega
    · have hjn : j = n := by omega
      subst hjn
      have O3 := Lib.hid (own_eq ho.out (show offL xs k = zs by rw [hzs.out, List.take_of_length_le (by have := H.out; omega)]))
      have G3 := Lib.hid hg.out
      obtain ⟨a3, c3, rfl, -, -⟩ := OwnI.shape O3.out
      clear ho hg
      go_wp2
      go_ret
      exact ints_post O3.out G3.out
theorem maskOn_any (w : World) (ao : Option Addr) (n cap : Nat) (xs : List Int) (k : Int) (h : IntsAt w ao n cap xs) (hp : ListP xs) (hk : 1 ≤ k ∧ k ≤ 996) :
    Calls Try.prog 24 #[.slice ao n cap, .int .i64 k] w (IntsPost w (onL xs k)) := by
  go_enter Try.func24, Try.ntmps24
  go_wp2_with (go_at_call 72; refine (maskedOn_any _ _ _ _ xs k h hp hk).mono ?_; rintro e w1 ⟨a1, c1, rfl, o1, g1⟩)
  go_ret
  exact ⟨a1, c1, rfl, o1, g1⟩
theorem maskOff_any (w : World) (ao : Option Addr) (n cap : Nat) (xs : List Int) (k : Int) (h : IntsAt w ao n cap xs) (hp : ListP xs) (hk : 1 ≤ k ∧ k ≤ 996) :
    Calls Try.prog 53 #[.slice ao n cap, .int .i64 k] w (IntsPost w (offL xs k)) := by
  go_enter Try.func53, Try.ntmps53
  go_wp2_with (go_at_call 72; refine (maskedOff_any _ _ _ _ xs k h hp hk).mono ?_; rintro e w1 ⟨a1, c1, rfl, o1, g1⟩)
  go_ret
  exact ⟨a1, c1, rfl, o1, g1⟩
set_option maxHeartbeats 1000000 in
theorem l2On_any (w : World) (ao : Option Addr) (n cap : Nat) (xs : List Int) (k : Int) (h : IntsAt w ao n cap xs) (hp : ListP xs) (hk : 1 ≤ k ∧ k ≤ 996) :
    Calls Try.prog 70 #[.slice ao n cap, .int .i64 k] w (IntsPost w (onL xs k)) := by
  have hl := h.len
  have hm := RowAt.max h
  have hnm := RowAt.le h
  have hn : n ≤ 24 := by have := hp.1; omega
  have H := Lib.hid hl
  have HA := Lib.hid h
  have HP := Lib.hid hp
  clear hl h hp
  go_enter Try.func70, Try.ntmps70
  go_wp2_with fail
  have O0 := Lib.hid (own_nil w.heap.size w (Nat.le_refl _))
  have G0 := Lib.hid (grown_alloc w (.cells #[] 3) none)
  go_loopw [5, 6] (fun v i wr => ∃ j : Nat, ∃ zs : List Int, j ≤ n ∧ i = .int .i64 j ∧ Hid (zs = onL (xs.take j) k) ∧ zs.length = j ∧ Hid (OwnI w.heap.size wr v zs) ∧ Hid (w.grownBy wr none)) (fun _ i _ => n - (intOf i).toNat)
  case atStart => exact ⟨0, [], by omega, rfl, Lib.hid rfl, rfl, O0, G0⟩
  case round =>
    clear O0 G0
    obtain ⟨j, zs, hj, rfl, hzs, hzl, ho, hg⟩ := hrel
    have HZ := Lib.hid hzl
    clear hzl
    by_cases hlt : j < n
    · obtain ⟨b, off, rfl, hb, hc⟩ := IntsAt.addr HA.out (by omega)
      have cx0 := hc j hlt
      have xb := HP.out.2 j (by have := H.out; omega)
      obtain ⟨x, hx⟩ : ∃ x, xs.getD j 0 = x := ⟨_, rfl⟩
      rw [hx] at cx0 xb
      have cx : wr.drew.cell? ⟨b, off + j, none⟩ = some (.int .i64 x) := (gDrew hg.out).cell cx0 (by simp)
      have cx1 : wr.cell? ⟨b, off + j, none⟩ = some (.int .i64 x) := hg.out.cell cx0 (by simp)
      have NB := Lib.hid (show u5.ownBlock ≠ some b from fun e => by have := (OwnI.blockIn ho.out b e).1; omega)
      obtain ⟨x0, x1⟩ := xb
      obtain ⟨s0, s1⟩ := strm_range k j
      obtain ⟨s, hs⟩ : ∃ s, strm k j = s := ⟨_, rfl⟩
      rw [hs] at s0 s1
      have NX : Hid (∀ y : Int, y = (x + s) % 991 → onL (xs.take (j + 1)) k = zs ++ [y]) := Lib.hid (fun y e => by
        rw [onL_step (by have := H.out; omega), hx, hs, hzs.out, e])
      have i0 : (0 : Int) ≤ (j : Int) := by omega
      have i1 : (j : Int) < n := by omega
      have HS := Lib.hid hs
      clear hc hx hs
      go_wp2
      go_region_held3 (fun w' => w'.cell? ⟨b, off + j, none⟩ = some (.int .i64 x)) (first | go_keep | exact cx | exact cell_ad cx1 | exact cx3)
        (first
          | (go_at_call 92; refine (l2At_any k j _ hk (by omega)).mono ?_; rintro e w5 ⟨rfl, rfl⟩; rw [HS.out])
          | (refine step_ints (B := w.heap.size) rfl (.tmp 14) (.tmp 24) rfl (OwnI.grown ho.out (by (repeat (with_reducible (first | refine gDrew ?_ | refine gDrewN ?_ _ | refine gAlloc ?_ _))); exact grown_refl _ _)) (IntsAt.grown (one_int wr _) (gDrew (grown_refl _ none))) rfl rfl (gDrew (gAlloc hg.out _)).size (by rw [HZ.out]; simp; omega) ?_; intro v3 w3 o3 g3; have cx3 := g3.cell (show World.cell? _ ⟨b, off + j, none⟩ = some (.int .i64 x) from cell_ad cx1) (fun e => NB.out e.symm)))
      have O3 := Lib.hid (own_eq o3 (NX.out _ (by rw [IntWalk.i64_in (x + s) (by omega), Int.tmod_eq_emod_of_nonneg (by omega)])))
      have G3 := Lib.hid (grown_own (gDrew (gAlloc hg.out _)) (OwnI.grown ho.out (gDrew (gAlloc (grown_refl _ none) _))) g3 (Nat.le_refl _))
      clear o3 g3 ho hg
      go_wp2
      go_roundw
      case rel => exact ⟨j + 1, onL (xs.take (j + 1)) k, by omega, by go_num, Lib.hid rfl, by rw [show (onL (xs.take (j + 1)) k).length = (xs.take (j + 1)).length by simp [onL]]; simp; have := H.out; omega, O3, G3⟩
      case measure => simp [intOf]; omega
    · have hjn : j = n := by omega
      subst hjn
      have O3 := Lib.hid (own_eq ho.out (show onL xs k = zs by rw [hzs.out, List.take_of_length_le (by have := H.out; omega)]))
      have G3 := Lib.hid hg.out
      obtain ⟨a3, c3, rfl, -, -⟩ := OwnI.shape O3.out
      clear ho hg
      go_wp2
      go_ret
      exact ints_post O3.out G3.out
set_option maxHeartbeats 1000000 in
theorem l2Off_any (w : World) (ao : Option Addr) (n cap : Nat) (xs : List Int) (k : Int) (h : IntsAt w ao n cap xs) (hp : ListP xs) (hk : 1 ≤ k ∧ k ≤ 996) :
    Calls Try.prog 66 #[.slice ao n cap, .int .i64 k] w (IntsPost w (offL xs k)) := by
  have hl := h.len
  have hm := RowAt.max h
  have hnm := RowAt.le h
  have hn : n ≤ 24 := by have := hp.1; omega
  have H := Lib.hid hl
  have HA := Lib.hid h
  have HP := Lib.hid hp
  clear hl h hp
  go_enter Try.func66, Try.ntmps66
  go_wp2_with fail
  have O0 := Lib.hid (own_nil w.heap.size w (Nat.le_refl _))
  have G0 := Lib.hid (grown_alloc w (.cells #[] 3) none)
  go_loopw [5, 6] (fun v i wr => ∃ j : Nat, ∃ zs : List Int, j ≤ n ∧ i = .int .i64 j ∧ Hid (zs = offL (xs.take j) k) ∧ zs.length = j ∧ Hid (OwnI w.heap.size wr v zs) ∧ Hid (w.grownBy wr none)) (fun _ i _ => n - (intOf i).toNat)
  case atStart => exact ⟨0, [], by omega, rfl, Lib.hid rfl, rfl, O0, G0⟩
  case round =>
    clear O0 G0
    obtain ⟨j, zs, hj, rfl, hzs, hzl, ho, hg⟩ := hrel
    have HZ := Lib.hid hzl
    clear hzl
    by_cases hlt : j < n
    · obtain ⟨b, off, rfl, hb, hc⟩ := IntsAt.addr HA.out (by omega)
      have cx0 := hc j hlt
      have xb := HP.out.2 j (by have := H.out; omega)
      obtain ⟨x, hx⟩ : ∃ x, xs.getD j 0 = x := ⟨_, rfl⟩
      rw [hx] at cx0 xb
      have cx : wr.drew.cell? ⟨b, off + j, none⟩ = some (.int .i64 x) := (gDrew hg.out).cell cx0 (by simp)
      have cx1 : wr.cell? ⟨b, off + j, none⟩ = some (.int .i64 x) := hg.out.cell cx0 (by simp)
      have NB := Lib.hid (show u5.ownBlock ≠ some b from fun e => by have := (OwnI.blockIn ho.out b e).1; omega)
      obtain ⟨x0, x1⟩ := xb
      obtain ⟨s0, s1⟩ := strm_range k j
      obtain ⟨s, hs⟩ : ∃ s, strm k j = s := ⟨_, rfl⟩
      rw [hs] at s0 s1
      have NX : Hid (∀ y : Int, y = (x + 991 - s) % 991 → offL (xs.take (j + 1)) k = zs ++ [y]) := Lib.hid (fun y e => by
        rw [offL_step (by have := H.out; omega), hx, hs, hzs.out, e])
      have i0 : (0 : Int) ≤ (j : Int) := by omega
      have i1 : (j : Int) < n := by omega
      have HS := Lib.hid hs
      clear hc hx hs
      go_wp2
      go_region_held3 (fun w' => w'.cell? ⟨b, off + j, none⟩ = some (.int .i64 x)) (first | go_keep | exact cx | exact cell_ad cx1 | exact cx3)
        (first
          | (go_at_call 92; refine (l2At_any k j _ hk (by omega)).mono ?_; rintro e w5 ⟨rfl, rfl⟩; rw [HS.out])
          | (refine step_ints (B := w.heap.size) rfl (.tmp 14) (.tmp 25) rfl (OwnI.grown ho.out (by (repeat (with_reducible (first | refine gDrew ?_ | refine gDrewN ?_ _ | refine gAlloc ?_ _))); exact grown_refl _ _)) (IntsAt.grown (one_int wr _) (gDrew (grown_refl _ none))) rfl rfl (gDrew (gAlloc hg.out _)).size (by rw [HZ.out]; simp; omega) ?_; intro v3 w3 o3 g3; have cx3 := g3.cell (show World.cell? _ ⟨b, off + j, none⟩ = some (.int .i64 x) from cell_ad cx1) (fun e => NB.out e.symm)))
      have O3 := Lib.hid (own_eq o3 (NX.out _ (by rw [IntWalk.i64_in (x + 991) (by omega), IntWalk.i64_in (x + 991 - s) (by omega), Int.tmod_eq_emod_of_nonneg (by omega)])))
      have G3 := Lib.hid (grown_own (gDrew (gAlloc hg.out _)) (OwnI.grown ho.out (gDrew (gAlloc (grown_refl _ none) _))) g3 (Nat.le_refl _))
      clear o3 g3 ho hg
      go_wp2
      go_roundw
      case rel => exact ⟨j + 1, offL (xs.take (j + 1)) k, by omega, by go_num, Lib.hid rfl, by rw [show (offL (xs.take (j + 1)) k).length = (xs.take (j + 1)).length by simp [offL]]; simp; have := H.out; omega, O3, G3⟩
      case measure => simp [intOf]; omega
    · have hjn : j = n := by omega
      subst hjn
      have O3 := Lib.hid (own_eq ho.out (show offL xs k = zs by rw [hzs.out, List.take_of_length_le (by have := H.out; omega)]))
      have G3 := Lib.hid hg.out
      obtain ⟨a3, c3, rfl, -, -⟩ := OwnI.shape O3.out
      clear ho hg
      go_wp2
      go_ret
      exact ints_post O3.out G3.out
end Go.Proofs.Ytedpkhboepahgaa
