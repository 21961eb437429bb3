/- The fillers of both. -/
import Derived.Test.YtedpkhboepahgaaHdrP
import Derived.Test.YtedpkhboepahgaaMask
import Derived.Test.YtedpkhboepahgaaAppZ
import Derived.WalkKit
import Derived.Lib.Hide
import Derived.Deep.QuietTactic
import Derived.BigQuiet
import Derived.Deep.RegionHeld3
namespace Go.Proofs.Ytedpkhboepahgaa
open Go.RowKit
theorem ints000 (w : World) : IntsAt (w.alloc (.cells #[.int .i64 0, .int .i64 0, .int .i64 0] 3)) (some ⟨w.heap.size, 0, none⟩) 3 3 [0, 0, 0] := by
  obtain ⟨ao, cap, e, h, -⟩ := Own.shape (own_lit 3 w #[.int .i64 0, .int .i64 0, .int .i64 0] (by simp))
  simp only [Value.slice.injEq] at e
  obtain ⟨rfl, -, rfl⟩ := e
  exact h
theorem fillF_eq {k x : Int} {m j : Nat} {q : Int} (h : q = strm k (9 - m + j)) : (x + 991 - q) % 991 = fillF k m j x := by rw [h]; rfl
theorem l2At_at (k : Int) (i : Nat) (z : Int) (w : World) (hk : 1 ≤ k ∧ k ≤ 996) (hi : i ≤ 100) (hz : z = i) :
    Calls Try.prog 92 #[.int .i64 k, .int .i64 z] w fun e w' => e = .returned (.int .i64 (strm k i)) ∧ w = w' := by
  subst hz; exact l2At_any k i w hk hi
set_option maxRecDepth 4000 in
set_option maxHeartbeats 4000000 in
theorem l5Filler_any (w : World) (ao : Option Addr) (n cap : Nat) (xs : List Int) (h : IntsAt w ao n cap xs) (hp : PathP xs) :
    Calls Try.prog 96 #[.slice ao n cap] w (IntsPost w (fillL xs)) := by
  have hm := RowAt.max h
  have hnm := RowAt.le h
  have HN := Lib.hid h.len
  have HA := Lib.hid h
  have PP := Lib.hid hp
  have hn1 : 1 ≤ n ∧ n ≤ 3 := by have := hp.2; have := HN.out; omega
  obtain ⟨hn1, hn3⟩ := hn1
  have O0 := Lib.hid (own_nil w.heap.size w (Nat.le_refl _))
  have G0 := Lib.hid (grown_alloc w (.cells #[] 3) none)
  clear h hp
  go_enter Try.func96, Try.ntmps96
  go_wp2_with fail
  go_loopw [3, 4, 5, 6, 7] (fun v i x y z wr => ∃ m : Nat, m + 1 ≤ n ∧ i = .int .i64 m ∧ Hid (OwnI w.heap.size wr v (fillN xs m)) ∧ Hid (w.grownBy wr none)) (fun _ i _ _ _ _ => n - (intOf i).toNat)
  case atStart => exact ⟨0, by omega, rfl, O0, G0⟩
  case round =>
    clear O0 G0
    obtain ⟨m, hmn, rfl, ho, hg⟩ := hrel
    have FL := Lib.hid (fillN_len (ks := xs) (m := m) (by have := HN.out; omega))
    obtain ⟨F, hF⟩ : ∃ F, fillN xs m = F := ⟨_, rfl⟩
    rw [hF] at ho FL
    have HF := Lib.hid hF
    by_cases hlt : (m : Int) + 1 < n
    · obtain ⟨b, off, rfl, hb, hc⟩ := IntsAt.addr HA.out (by omega)
      have ck0 := hc m (by omega)
      have kr := PP.out.1 m (by have := HN.out; omega)
      have NX := Lib.hid (fillN_step (ks := xs) (m := m) (by have := HN.out; omega))
      obtain ⟨k, hk⟩ : ∃ k, xs.getD m 0 = k := ⟨_, rfl⟩
      rw [hk] at ck0 kr NX
      rw [hF] at NX
      have CKW := Lib.hid ck0
      have KR := Lib.hid kr
      obtain ⟨a0, c0, rfl, -, -⟩ := OwnI.shape ho.out
      rw [FL.out] at ho ⊢
      have N1 := Lib.hid (own_nil wr.heap.size wr (Nat.le_refl _))
      have F1 := Lib.hid ((OwnI.ints ho.out).1.grown (grown_alloc wr (.cells #[] 3) none))
      clear hc hF hk kr ck0
      go_wp2_with (at_builtin; refine app_ints rfl (.tmp 16) (.tmp 17) rfl N1.out F1.out rfl rfl (grown_alloc wr _ none).size (by rw [FL.out]; simp; omega) ?_; intro v5 w5 o5 g5; refine Hid.out ?_)
      show wpList _ _ _ _ _ _
      have G5 := Lib.hid (gAlloc (grown_own (grown_alloc wr (.cells #[] 3) none) N1.out g5 (Nat.le_refl _)) (.cells #[.int .i64 0, .int .i64 0, .int .i64 0] 3))
      have O5 := Lib.hid (OwnI.grown (own_eq o5 (show F = [] ++ F from rfl)) (grown_alloc w5 (.cells #[.int .i64 0, .int .i64 0, .int .i64 0] 3) none))
      clear o5 g5 N1 F1
      go_wp2_with (at_builtin; refine app_ints rfl (.tmp 18) (.tmp 19) rfl O5.out (ints000 w5) rfl rfl G5.out.size (by rw [FL.out]; simp; omega) ?_; intro v6 w6 o6 g6; refine Hid.out ?_)
      show wpList _ _ _ _ _ _
      have G6 := Lib.hid (grown_own G5.out O5.out g6 (Nat.le_refl _))
      have O6 := Lib.hid o6
      clear o6 g6 G5 O5
      obtain ⟨a6, c6, rfl, -, -⟩ := OwnI.shape O6.out
      have L6 := Lib.hid (show (F ++ [0, 0, 0]).length = 3 * m + 3 by simp [FL.out])
      have LX := Lib.hid (show ListP (F ++ [0, 0, 0]) from list_app (by rw [← HF.out]; exact fillN_list (by have := HN.out; omega) (by omega)) (list_mem.2 ⟨by simp, fun x hx => by simp at hx; omega⟩) (by rw [FL.out]; simp; omega))
      rw [L6.out] at O6 ⊢
      have XI := Lib.hid (OwnI.ints O6.out).1
      have m3 : m ≤ 1 := by omega
      have P0 := Lib.hid (own_nil w6.heap.size w6 (Nat.le_refl _))
      have GW := Lib.hid (grown_trans hg.out G6.out)
      clear O6 ho hg G6
      go_wp2
      obtain ⟨f, hf⟩ : ∃ f : Nat, 9 - 3 * m = f := ⟨_, rfl⟩
      have HFM := Lib.hid (show f + 3 * m = 9 by omega)
      rw [show (12 - (3 * (m : Int) + 3)) = (f : Int) by omega]
      clear hf
      go_loopw [3, 7] (fun v i wr => ∃ j : Nat, ∃ zs : List Int, j ≤ 3 * m + 3 ∧ i = .int .i64 j ∧ zs.length = j ∧ Hid (zs = ((F ++ [0, 0, 0]).take j).mapIdx (fillF k F.length)) ∧ Hid (OwnI w6.heap.size wr v zs) ∧ Hid (w6.grownBy wr none)) (fun _ i _ => 3 * m + 3 - (intOf i).toNat)
      case atStart => exact ⟨0, [], by omega, rfl, rfl, Lib.hid rfl, P0, Lib.hid (grown_alloc _ _ none)⟩
      case round =>
        clear P0
        obtain ⟨j, zs, hj, rfl, hzl, hzs, ho, hg⟩ := hrel
        have HZ := Lib.hid hzl
        clear hzl
        by_cases hlt2 : j < 3 * m + 3
        · obtain ⟨b6, off6, rfl, hb6, hc6⟩ := IntsAt.addr XI.out (by omega)
          have cx0 := hc6 j hlt2
          have xr : 0 ≤ (F ++ [0, 0, 0]).getD j 0 ∧ (F ++ [0, 0, 0]).getD j 0 ≤ 990 := LX.out.2 j (by rw [L6.out]; exact hlt2)
          have NY : Hid (∀ y : Int, y = fillF k F.length j ((F ++ [0, 0, 0]).getD j 0) → ((F ++ [0, 0, 0]).take (j + 1)).mapIdx (fillF k F.length) = zs ++ [y]) := Lib.hid (fun y e => by
            rw [idx_step (by rw [L6.out]; exact hlt2), hzs.out, e])
          obtain ⟨x, hx⟩ : ∃ x, (F ++ [0, 0, 0]).getD j 0 = x := ⟨_, rfl⟩
          rw [hx] at cx0 xr NY
          obtain ⟨q, hq⟩ : ∃ q : Nat, 9 - F.length + j = q := ⟨_, rfl⟩
          have HQ3 := Lib.hid (show q = f + j ∧ f ≤ 9 by have := FL.out; have := HFM.out; omega)
          obtain ⟨s0, s1⟩ := strm_range k q
          have NE : Hid (∀ y s : Int, y = (x + 991 - s) % 991 → s = strm k q → y = fillF k F.length j x) := Lib.hid (fun y s e e2 => by rw [e, e2, ← hq]; rfl)
          obtain ⟨s, hs⟩ : ∃ s, strm k q = s := ⟨_, rfl⟩
          rw [hs] at s0 s1
          have HS := Lib.hid hs
          have cx1 := hg.out.cell cx0 (by simp)
          have ck1 := (grown_trans GW.out hg.out).cell (CKW.out) (by simp)
          have cx : wr.drew.cell? ⟨b6, off6 + j, none⟩ = some (.int .i64 x) := cx1
          have ck : wr.drew.cell? ⟨b, off + m, none⟩ = some (.int .i64 k) := ck1
          have NB := Lib.hid (show u3.ownBlock ≠ some b6 from fun e => by have := (OwnI.blockIn ho.out b6 e).1; omega)
          have NB2 := Lib.hid (show u3.ownBlock ≠ some b from fun e => by have := (OwnI.blockIn ho.out b e).1; have := GW.out.size; omega)
          obtain ⟨x0, x1⟩ := xr
          have i0 : (0 : Int) ≤ (j : Int) := by omega
          have i1 : (j : Int) < 3 * (m : Int) + 3 := by omega
          have i2 : (0 : Int) ≤ (m : Int) := by omega
          have i3 : (m : Int) < n := by omega
          clear hc6 hx hs hq cx0
          go_wp2
          go_region_held3 (fun w' => w'.cell? ⟨b6, off6 + j, none⟩ = some (.int .i64 x) ∧ w'.cell? ⟨b, off + m, none⟩ = some (.int .i64 k)) (first | go_keep | exact ⟨cx, ck⟩ | exact ⟨cell_ad cx1, cell_ad ck1⟩ | exact ⟨cx3, ck3⟩)
            (first
              | (go_at_call 92; refine (l2At_at k q _ _ KR.out (by have := HQ3.out; omega) (by have := HQ3.out; (try simp only [IntKind.wrap_i64]); omega)).mono ?_; rintro e w5 ⟨rfl, rfl⟩; rw [HS.out])
              | (refine step_ints (B := w6.heap.size) rfl (.tmp 31) (.tmp 47) rfl (OwnI.grown ho.out (by (repeat (with_reducible (first | refine gDrew ?_ | refine gDrewN ?_ _ | refine gAlloc ?_ _))); exact grown_refl _ _)) (IntsAt.grown (one_int wr _) (gDrew (grown_refl _ none))) rfl rfl (gDrew (gAlloc hg.out _)).size (by rw [HZ.out]; simp; omega) ?_; intro v3 w3 o3 g3; have cx3 := g3.cell (show World.cell? _ ⟨b6, off6 + j, none⟩ = some (.int .i64 x) from cell_ad cx1) (fun e => NB.out e.symm); have ck3 := g3.cell (show World.cell? _ ⟨b, off + m, none⟩ = some (.int .i64 k) from cell_ad ck1) (fun e => NB2.out e.symm)))
          have O3 := Lib.hid (own_eq o3 (NY.out _ (NE.out _ s (by rw [IntWalk.i64_in (x + 991) (by omega), IntWalk.i64_in (x + 991 - s) (by omega), Int.tmod_eq_emod_of_nonneg (by omega)]) HS.out.symm)))
          have G3 := Lib.hid (grown_own (gDrew (gAlloc hg.out _)) (OwnI.grown ho.out (gDrew (gAlloc (grown_refl _ none) _))) g3 (Nat.le_refl _))
          clear o3 g3 ho hg cx3 ck3 cx ck cx1 ck1
          go_wp2
          go_roundw
          case rel => exact ⟨j + 1, _, by omega, by go_num, by rw [List.length_mapIdx, List.length_take, L6.out]; omega, Lib.hid rfl, O3, G3⟩
          case measure => simp [intOf]; omega
        · have hj3 : j = 3 * m + 3 := by omega
          have E := Lib.hid (show fillN xs (m + 1) = zs by rw [NX.out, hzs.out, List.take_of_length_le (by rw [L6.out]; omega)]; rfl)
          have O3 := Lib.hid (own_eq (Own.lower ho.out GW.out.size) E.out)
          have G3 := Lib.hid (grown_trans GW.out hg.out)
          clear ho hg hzs
          go_wp2
          go_roundw
          case rel => exact ⟨m + 1, by omega, by go_num, O3, G3⟩
          case measure => simp [intOf]; omega
    · have hmn1 : m = n - 1 := by omega
      have E := Lib.hid (show fillL xs = F by rw [← HF.out, hmn1, ← HN.out]; rfl)
      have O3 := Lib.hid (own_eq ho.out E.out)
      have G3 := Lib.hid hg.out
      obtain ⟨a3, c3, rfl, -, -⟩ := OwnI.shape O3.out
      clear ho hg
      go_wp2
      go_ret
      exact ints_post O3.out G3.out
end Go.Proofs.Ytedpkhboepahgaa
