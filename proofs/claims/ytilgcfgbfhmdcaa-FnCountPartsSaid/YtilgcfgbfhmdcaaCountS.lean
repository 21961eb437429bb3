/- The walk of FnCountParts. -/
import Derived.Test.YtilgcfgbfhmdcaaCountL
import Derived.WalkKit
import Derived.Lib.Hide
import Derived.Deep.QuietTactic
import Derived.BigQuiet
namespace Go.Proofs.Ytilgcfgbfhmdcaa
open Go.RowKit
def partF (rows : List (List Bool)) (n s r : Nat) : Nat := cnt (partT rows n s r n) n n noU
def partSum (rows : List (List Bool)) (n s r : Nat) : Nat := sumTo (partF rows n s) r
theorem partSum_step (rows : List (List Bool)) (n s r : Nat) : partSum rows n s (r + 1) = partSum rows n s r + partF rows n s r := rfl
theorem partF_small (rows : List (List Bool)) (n s r : Nat) (h5 : n ≤ 5) : partF rows n s r ≤ 3125 := part_small rows n s r h5
theorem partSum_small (rows : List (List Bool)) (n s r : Nat) (h5 : n ≤ 5) (hr : r ≤ 5) : partSum rows n s r ≤ 15625 := by
  have h := sumTo_le (g := partF rows n s) (b := 3125) r (fun i _ => partF_small rows n s i h5)
  have : r * 3125 ≤ 5 * 3125 := Nat.mul_le_mul hr (Nat.le_refl _)
  unfold partSum
  omega
theorem row_at {B : Nat} {w : World} {g : Nat} {n cap : Nat} {xs : List Bool} (h : OwnB B w (.slice (some ⟨g, 0, none⟩) n cap) xs) (k : Nat) (hk : k < xs.length) :
    (∃ v0, w.cell? ⟨g, k, none⟩ = some v0) ∧ w.frozen? ⟨g, k, none⟩ = false ∧ B ≤ g ∧ ∀ x, OwnB B (w.setCell ⟨g, k, none⟩ (.bool x)) (.slice (some ⟨g, 0, none⟩) n cap) (xs.set k x) := by
  obtain ⟨g', e1, _, hB, _, hc, hf, hs⟩ := Own.at h (by rw [List.length_map]; omega)
  simp only [Option.some.injEq, Addr.mk.injEq, and_true] at e1
  subst e1
  refine ⟨⟨.bool xs[k], hc k _ (by rw [List.getElem?_map, List.getElem?_eq_getElem hk]; rfl)⟩, hf k, hB, fun x => ?_⟩
  have := hs k (.bool x)
  unfold OwnB
  rw [List.map_set]
  exact this
theorem row_block {B : Nat} {w : World} {ao : Option Addr} {n cap : Nat} {xs : List Bool} (h : OwnB B w (.slice ao n cap) xs) (hk : 0 < xs.length) : ∃ g, ao = some ⟨g, 0, none⟩ := by
  obtain ⟨g', e1, _⟩ := Own.at h (by rw [List.length_map]; omega)
  exact ⟨g', e1⟩
set_option maxHeartbeats 4000000 in
theorem fnCountParts_walk (ao : Option Addr) (n cap : Nat) (bo : Option Addr) (m mcap : Nat) (w : World) (h1 : CodeAt w ao n cap) (_ : CodeAt w bo m mcap) :
    Calls Try.prog 7 #[.slice ao n cap, .slice bo m mcap] w fun e w' => e = .returned (.bool true) ∧ w.grownBy w' none := by
  by_cases a : (1048576 : Int) < n
  · go_enter Try.func7, Try.ntmps7
    go_wp2
    go_ret
    exact ⟨rfl, grown_refl _ _⟩
  by_cases b : (1048576 : Int) < m
  · go_enter Try.func7, Try.ntmps7
    go_wp2
    go_ret
    exact ⟨rfl, grown_refl _ _⟩
  · go_enter Try.func7, Try.ntmps7
    go_wp2_with fail
    refine (drawAssignCount_any _ _ _ _ h1).mono ?_
    rintro e w1 ⟨rows, a1, c1, l1, rfl, t1, g1⟩
    go_wp2_with fail
    refine (assignCount_any _ _ _ _ _ t1).mono ?_
    rintro e w2 ⟨rfl, rfl⟩
    go_wp2_with fail
    refine (assignCountS_any _ _ _ _ _ t1).mono ?_
    rintro e w3 ⟨rfl, g3⟩
    have G3 := Lib.hid (grown_trans g1 g3)
    have T3 := Lib.hid (t1.grown g3)
    obtain ⟨N, hN⟩ : ∃ N, rows.length = N := ⟨_, rfl⟩
    rw [hN]
    rw [hN] at T3 l1
    have HN := Lib.hid hN
    clear g1 g3 t1 hN
    by_cases hgp : GridP rows
    case neg =>
      have A3 := acount_no hgp
      have A4 : acount rows < 0 := by rw [A3]; omega
      clear A3
      go_wp2_with fail
      go_ret
      exact ⟨rfl, G3.out⟩
    case pos =>
      have A3 := acount_nonneg hgp
      have hN1 : 1 ≤ N := by have := hgp.1; have := HN.out; omega
      have hN5 : N ≤ 5 := l1
      have A4 : ¬ acount rows < 0 := by omega
      have HG := Lib.hid hgp
      clear A3 hgp
      obtain ⟨s, hs⟩ : ∃ s : Nat, m % N = s := ⟨_, rfl⟩
      have hsN : s < N := by rw [← hs]; exact Nat.mod_lt _ (by omega)
      have AC := Lib.hid (acount_parts HG.out N s HN.out hsN)
      have d0 : N ≠ 0 := by omega
      have d1 : ((N : Int) == 0) = false := by simp; omega
      have e1 : (m : Int).tmod (N : Int) = (s : Int) := by rw [← hs]; rfl
      have e4 : (m : Int) % (N : Int) = (s : Int) := by rw [← hs]; rfl
      have G0 := Lib.hid (grown_refl w3 none)
      go_wp2_with fail
      clear e1 e4 hs
      go_loopw [10, 11] (fun v q wr => ∃ r : Nat, r ≤ N ∧ q = .int .i64 r ∧ v = .int .i64 (partSum rows N s r : Nat) ∧ Hid (w3.grownBy wr none)) (fun _ q _ => N - (intOf q).toNat)
      case atStart => exact ⟨0, by omega, rfl, rfl, G0⟩
      case round =>
        clear G0
        obtain ⟨r, hr, rfl, rfl, hg⟩ := hrel
        obtain ⟨wa, rfl⟩ : ∃ wa : World, wa = wr := ⟨_, rfl⟩
        by_cases hrn : r < N
        · have S1 := partSum_small rows N s r hN5 (by omega)
          have S2 := partF_small rows N s r hN5
          obtain ⟨S, hS⟩ : ∃ S, partSum rows N s r = S := ⟨_, rfl⟩
          obtain ⟨F, hF⟩ : ∃ F, partF rows N s r = F := ⟨_, rfl⟩
          rw [hS] at S1
          rw [hF] at S2
          have HS := Lib.hid hS
          have HF := Lib.hid hF
          rw [hS]
          clear hS hF
          have O0 := Lib.hid (OwnG.now (ownG_nil w3.heap.size wa hg.out.size))
          have G0 := Lib.hid (gAlloc hg.out (.cells #[] 30))
          clear hg
          go_wp2_with fail
          go_loopw [12, 13] (fun v q wr => ∃ i : Nat, i ≤ N ∧ q = .int .i64 i ∧ Hid (OwnG w3.heap.size wr.heap.size wr v (partT rows N s r i)) ∧ Hid (w3.grownBy wr none)) (fun _ q _ => N - (intOf q).toNat)
          case atStart => exact ⟨0, by omega, rfl, O0, G0⟩
          case round =>
            clear O0 G0
            obtain ⟨i, hi, rfl, ho, hg⟩ := hrel
            obtain ⟨wo, rfl⟩ : ∃ wo : World, wo = wr := ⟨_, rfl⟩
            have zo := hg.out.size
            by_cases hin : i < N
            · have I0 := Lib.hid (own_nilB wo.heap.size wo (Nat.le_refl _))
              have T0 := Lib.hid (OwnG.grown ho.out (grown_alloc wo (.cells #[] 4) none))
              have G1 := Lib.hid (gAlloc hg.out (.cells #[] 4))
              have Z1 := Lib.hid (show wo.heap.size ≤ (wo.alloc (.cells #[] 4)).heap.size by simp)
              have Dg := (T3.out.grown hg.out).grown (grown_alloc wo (.cells #[] 4) none)
              obtain ⟨b, off, ro, rc, rfl, cc, hr9⟩ := Dg.at i hin
              obtain ⟨row, hrow⟩ : ∃ row, rows.getD i [] = row := ⟨_, rfl⟩
              have HL := Lib.hid (HG.out.2 i (by rw [HN.out]; exact hin))
              rw [HN.out] at HL
              have HP := Lib.hid (partR_zero s r HL.out)
              rw [hrow] at cc hr9 HL HP
              rw [HL.out] at cc hr9
              have HR := Lib.hid hr9
              clear hg ho Dg hr9 hrow
              go_wp2_with (first | (at_builtin; refine app_bools rfl (.tmp 57) (.tmp 61) rfl I0.out HR.out rfl rfl Z1.out (by rw [HL.out, List.length_nil]; omega) ?_; intro v9 w9 o9 g9; refine Hid.out ?_))
              show wpList _ _ _ _ _ _
              have bnd := fun k e => (World.ownsRow.lt I0.out k e).1
              have T9 := Lib.hid (OwnG.row T0.out g9 (fun k e => .inr (bnd k e)))
              have G9 := Lib.hid (grown_own G1.out I0.out g9 (by omega))
              have Z9 := Lib.hid (Nat.le_trans Z1.out g9.size)
              rw [List.nil_append, ← HP.out] at o9
              have SH := OwnB.shape o9
              rw [partR_len] at SH
              obtain ⟨q1, q2, rfl, _⟩ := SH
              obtain ⟨g, rfl⟩ := row_block o9 (by rw [partR_len]; omega)
              have O9 := Lib.hid o9
              clear bnd o9 g9 I0 T0 G1 Z1 cc HP HR HL
              go_wp2_with fail
              go_loopw [15] (fun q wr => ∃ k : Nat, k ≤ N ∧ q = .int .i64 k ∧ Hid (OwnB wo.heap.size wr (.slice (some ⟨g, 0, none⟩) N q2) (partR rows N s r i k)) ∧ Hid (OwnG w3.heap.size wo.heap.size wr u12 (partT rows N s r i)) ∧ Hid (w3.grownBy wr none) ∧ Hid (wo.heap.size ≤ wr.heap.size)) (fun q _ => N - (intOf q).toNat)
              case atStart => exact ⟨0, by omega, rfl, O9, T9, G9, Z9⟩
              case round =>
                clear O9 T9 G9 Z9
                obtain ⟨k, hk, rfl, ho, ht, hg, hz⟩ := hrel
                by_cases hkn : k < N
                · by_cases hc : i = s ∧ k ≠ r
                  · obtain ⟨ci, ck⟩ := hc
                    subst ci
                    obtain ⟨⟨v0, cb⟩, fb, hBg, hst⟩ := row_at ho.out k (by rw [partR_len]; exact hkn)
                    have hst' := hst false
                    rw [partR_set rows N i r k ck] at hst'
                    have O5 := Lib.hid hst'
                    have T5 := Lib.hid (OwnG.row ht.out (grown_set wr g k (.bool false)) (fun j e => .inr (by simp at e; omega)))
                    have G5 := Lib.hid (gSet hg.out (p := ⟨g, k, none⟩) (Nat.le_trans zo hBg) (.bool false))
                    have Z5 := Lib.hid (show wo.heap.size ≤ (wr.setCell ⟨g, k, none⟩ (.bool false)).heap.size by have := hz.out; simp [World.setCell]; omega)
                    have ck1 : ((k : Int) == (r : Int)) = false := by simp; omega
                    have ck2 : ¬ (k : Int) = (r : Int) := by omega
                    clear hst hst' ho ht hg hz
                    go_wp2
                    go_roundw
                    case rel => exact ⟨k + 1, by omega, by go_num, O5, T5, G5, Z5⟩
                    case measure => simp [intOf]; omega
                  · have O5 := ho.out
                    rw [← partR_skip rows N s r i k (by omega)] at O5
                    have HO5 := Lib.hid O5
                    clear O5 ho
                    by_cases ci : i = s
                    · have ck : k = r := by omega
                      subst ci ck
                      clear hc
                      go_wp2
                      go_roundw
                      case rel => exact ⟨k + 1, by omega, by go_num, HO5, ht, hg, hz⟩
                      case measure => simp [intOf]; omega
                    · have ci1 : ((i : Int) == (s : Int)) = false := by simp; omega
                      have ci2 : ¬ (i : Int) = (s : Int) := by omega
                      clear hc
                      go_wp2
                      go_roundw
                      case rel => exact ⟨k + 1, by omega, by go_num, HO5, ht, hg, hz⟩
                      case measure => simp [intOf]; omega
                · obtain rfl : k = N := by omega
                  have Y := Lib.hid (one_row wr (.slice (some ⟨g, 0, none⟩) k q2))
                  have O2 := Lib.hid (OwnB.grown ho.out (grown_alloc wr (.cells #[.slice (some ⟨g, 0, none⟩) k q2] 30) none))
                  have T2 := Lib.hid (OwnG.grown ht.out (grown_alloc wr (.cells #[.slice (some ⟨g, 0, none⟩) k q2] 30) none))
                  have G2 := Lib.hid (gAlloc hg.out (.cells #[.slice (some ⟨g, 0, none⟩) k q2] 30))
                  have HB := Lib.hid (show wo.heap.size ≤ (wr.alloc (.cells #[.slice (some ⟨g, 0, none⟩) k q2] 30)).heap.size by have := hz.out; simp; omega)
                  clear ho ht hg hz
                  go_wp2_with (at_builtin; refine app_grid rfl (.tmp 79) (.tmp 81) rfl T2.out O2.out Y.out rfl rfl zo HB.out (by rw [partT_len]; omega) ?_; intro v9 w9 o9 g9; refine Hid.out ?_)
                  show wpList _ _ _ _ _ _
                  obtain ⟨vs9, hh9⟩ := OwnTab.spine T2.out
                  have G9 := Lib.hid (grown_own G2.out hh9 g9 (Nat.le_refl _))
                  have O9 := Lib.hid o9
                  clear hh9 vs9 o9 g9 T2 O2 G2 Y HB
                  go_wp2
                  go_roundw
                  case rel => exact ⟨i + 1, by omega, by go_num, by rw [partT_step]; exact O9, G9⟩
                  case measure => simp [intOf]; omega
            · have hin' : i = N := by omega
              subst hin'
              have SH := ho.out.shape
              rw [partT_len] at SH
              obtain ⟨q1, q2, rfl, hga⟩ := SH
              have HA := Lib.hid (acount_part rows i s r hN1 hN5)
              have HA2 : acount (partT rows i s r i) = (F : Nat) := by rw [HA.out, ← HF.out]; rfl
              have HA3 := Lib.hid HA2
              clear HA HA2
              go_wp2_with fail
              refine (assignCount_any _ _ _ _ _ hga).mono ?_
              rintro e w9 ⟨rfl, rfl⟩
              rw [HA3.out]
              go_wp2
              go_roundw
              case rel => exact ⟨r + 1, by omega, by go_num, by rw [partSum_step, HS.out, HF.out]; go_num, hg⟩
              case measure => simp [intOf]; omega
        · have hrn' : r = N := by omega
          subst hrn'
          have AC' : acount rows = (partSum rows r s r : Nat) := AC.out
          obtain ⟨S, hS⟩ : ∃ S, partSum rows r s r = S := ⟨_, rfl⟩
          rw [hS] at AC' ⊢
          clear hS AC
          rw [AC'] at *
          go_wp2_with fail
          go_ret
          exact ⟨rfl, grown_trans G3.out hg.out⟩
end Go.Proofs.Ytilgcfgbfhmdcaa
