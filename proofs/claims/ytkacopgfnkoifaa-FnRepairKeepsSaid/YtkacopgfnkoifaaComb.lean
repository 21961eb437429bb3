/- combined; PiecesParity of both. -/
import Derived.Test.YtkacopgfnkoifaaMiss
import Derived.WalkKit
import Derived.Lib.Hide
import Derived.Deep.QuietTactic
import Derived.BigQuiet
import Derived.StillTailTactics
namespace Go.Proofs.Ytkacopgfnkoifaa
open Go.RowKit
theorem ints_at1 {B : Nat} {w : World} {g : Nat} {n cap : Nat} {xs : List Int} (h : OwnI B w (.slice (some ⟨g, 0, none⟩) n cap) xs) (k : Nat) (hk : k < xs.length) :
    w.cell? ⟨g, k, none⟩ = some (.int .i64 (xs.getD k 0)) ∧ w.frozen? ⟨g, k, none⟩ = false ∧ B ≤ g ∧ ∀ x, OwnI B (w.setCell ⟨g, k, none⟩ (.int .i64 x)) (.slice (some ⟨g, 0, none⟩) n cap) (xs.set k x) := by
  obtain ⟨g', e1, _, hB, _, hc, hf, hs⟩ := OwnI.at h (by omega)
  simp only [Option.some.injEq, Addr.mk.injEq, and_true] at e1
  subst e1
  exact ⟨hc k hk, hf k, hB, fun x => hs k x⟩
/-- the first j cells added already -/
def HalfAdd (s : Int) (acc row : List Int) (j : Nat) (zs : List Int) : Prop := zs.length = acc.length ∧ (∀ i, i < j → zs.getD i 0 = (rowAdd s acc row).getD i 0) ∧ ∀ i, j ≤ i → zs.getD i 0 = acc.getD i 0
theorem half_start (s : Int) (acc row : List Int) : HalfAdd s acc row 0 acc := ⟨rfl, fun i hi => by omega, fun _ _ => rfl⟩
theorem half_step {s : Int} {acc row zs : List Int} {j : Nat} (h : HalfAdd s acc row j zs) (hj : j < acc.length) (hr : j < row.length) {x : Int} (hx : x = (acc.getD j 0 + s * row.getD j 0 + 991) % 991) : HalfAdd s acc row (j + 1) (zs.set j x) := by
  obtain ⟨h1, h2, h3⟩ := h
  refine ⟨by simp [h1], fun i hi => ?_, fun i hi => ?_⟩
  · by_cases e : i = j
    · subst e
      rw [List.getD_eq_getElem?_getD, List.getElem?_set_self (by omega), rowAdd_getD _ _ _ _ hj, if_pos hr]; exact hx
    · rw [List.getD_eq_getElem?_getD, List.getElem?_set_ne (Ne.symm e), ← List.getD_eq_getElem?_getD]
      exact h2 i (by omega)
  · rw [List.getD_eq_getElem?_getD, List.getElem?_set_ne (by omega), ← List.getD_eq_getElem?_getD]
    exact h3 i (by omega)
theorem half_end {s : Int} {acc row zs : List Int} {j : Nat} (h : HalfAdd s acc row j zs) (hj : row.length ≤ j) : zs = rowAdd s acc row := by
  obtain ⟨h1, h2, h3⟩ := h
  refine same_of_getD (by rw [rowAdd_len]; exact h1) fun i hi => ?_
  by_cases e : i < j
  · exact h2 i e
  · rw [h3 i (by omega), rowAdd_getD _ _ _ _ (by omega), if_neg (by omega)]
theorem one_getD {r : List Int} (h : OneP r) (j : Nat) (hj : j < 3) : 0 ≤ r.getD j 0 ∧ r.getD j 0 ≤ 990 := h.2.2 j (by rw [h.1]; exact hj)
set_option maxHeartbeats 2000000 in
theorem combined_1 (w : World) (po : Option Addr) (pc : Nat) (par : List Int) (ao : Option Addr) (n cap : Nat) (rows : List (List Int)) (hp : IntsAt w po 3 pc par) (hpo : OneP par) (h : RowsAt w ao n cap rows) (hr : ∀ i, i < n → (rows.getD i []).length = 0 ∨ OneP (rows.getD i [])) :
    Calls Try.prog 49 #[.slice po 3 pc, .slice ao n cap, .int .i64 (1)] w (IntsPost w (combR (1) par rows n)) := by
  have hm := TabAt.le h
  have HR := Lib.hid hr
  have HPO := Lib.hid hpo
  clear hr hpo
  go_enter Try.func49, Try.ntmps49
  go_wp2_with fail
  refine (clone_any _ _ _ _ par hp (by omega)).mono ?_
  rintro e w1 ⟨a1, c1, rfl, o1, g1⟩
  rw [HPO.out.1] at o1 ⊢
  obtain ⟨g, e1, -, hgB, -⟩ := OwnI.at o1 (by rw [HPO.out.1]; omega)
  subst e1
  have O1 := Lib.hid o1
  have G1 := Lib.hid g1
  clear o1 g1
  go_wp2_with fail
  go_loopw [9, 10, 11, 16] (fun u v x q wr => ∃ k : Nat, k ≤ n ∧ q = .int .i64 k ∧ Hid (OwnI w.heap.size wr (.slice (some ⟨g, 0, none⟩) 3 c1) (combR (1) par rows k)) ∧ Hid (w.grownBy wr none)) (fun _ _ _ q _ => n - (intOf q).toNat)
  case atStart => exact ⟨0, by omega, rfl, O1, G1⟩
  case round =>
    clear O1 G1
    obtain ⟨k, hk, rfl, ho, hg⟩ := hrel
    obtain ⟨wo, rfl⟩ : ∃ wo : World, wo = wr := ⟨_, rfl⟩
    by_cases hlt : k < n
    · obtain ⟨b, off, ro, rc, rfl, cc0, hrow⟩ := h.at k hlt
      have cc := hg.out.cell cc0 (by simp)
      clear cc0
      have hcase := HR.out k hlt
      have hacc := combR_one (s := (1)) (rows := rows) HPO.out k
      obtain ⟨row, hz⟩ : ∃ z, rows.getD k [] = z := ⟨_, rfl⟩
      obtain ⟨acc, ha⟩ : ∃ z, combR (1) par rows k = z := ⟨_, rfl⟩
      obtain ⟨l, hll⟩ : ∃ l, row.length = l := ⟨_, rfl⟩
      rw [hz, hll] at cc hrow
      rw [hz] at hcase
      rw [ha] at ho hacc
      have hl3 : l ≤ 3 := by
        rcases hcase with e | e
        · omega
        · have := e.1; omega
      have NX := Lib.hid (show combR (1) par rows (k + 1) = rowAdd (1) acc row by rw [combR, ha, hz])
      have HROW := Lib.hid hrow
      have HC := Lib.hid hcase
      have HA := Lib.hid hacc
      have HL := Lib.hid hll
      clear hz ha hll hrow hcase hacc
      have H0 := Lib.hid (half_start (1) acc row)
      go_wp2_with fail
      go_loopw [10, 11, 22] (fun u v q wr => ∃ (j : Nat) (zs : List Int), j ≤ l ∧ q = .int .i64 j ∧ Hid (HalfAdd (1) acc row j zs) ∧ Hid (OwnI w.heap.size wr (.slice (some ⟨g, 0, none⟩) 3 c1) zs) ∧ Hid (w.grownBy wr none)) (fun _ _ q _ => l - (intOf q).toNat)
      case atStart => exact ⟨0, acc, by omega, rfl, H0, ho, hg⟩
      case round =>
        clear H0 ho hg cc
        obtain ⟨j, zs, hj, rfl, hh, ho, hg⟩ := hrel
        obtain ⟨wi, rfl⟩ : ∃ wi : World, wi = wr := ⟨_, rfl⟩
        by_cases hjl : j < l
        · have hone : OneP row := by
            rcases HC.out with e | e
            · have := HL.out; omega
            · exact e
          have hrow2 : IntsAt wi ro l rc row := IntsAt.grown HROW.out hg.out
          obtain ⟨rb, roff, rfl, -, hcell⟩ := IntsAt.addr hrow2 (by omega)
          have cy := hcell j hjl
          obtain ⟨cz, fz, -, hset⟩ := ints_at1 ho.out j (by rw [hh.out.1, HA.out.1]; omega)
          rw [hh.out.2.2 j (Nat.le_refl _)] at cz
          have yb := one_getD hone j (by omega)
          have zb := one_getD HA.out j (by omega)
          obtain ⟨y, hy⟩ : ∃ y, row.getD j 0 = y := ⟨_, rfl⟩
          obtain ⟨z, hz⟩ : ∃ z, acc.getD j 0 = z := ⟨_, rfl⟩
          rw [hy] at cy yb
          rw [hz] at cz zb
          obtain ⟨y0, y1⟩ := yb
          obtain ⟨z0, z1⟩ := zb
          have NH := Lib.hid (half_step hh.out (x := ((z + y) % 991)) (by rw [HA.out.1]; omega) (by rw [HL.out]; exact hjl) (by rw [hy, hz]; omega))
          have NO := Lib.hid (hset ((z + y) % 991))
          have NG : Hid (w.grownBy (wi.setCell ⟨g, j, none⟩ (.int .i64 ((z + y) % 991))) none) := Lib.hid (gSet hg.out hgB _)
          clear hy hz hset hcell hrow2 hone hh ho hg HROW HC HA HL NX hgB h hp
          go_wp2
          go_roundw
          case rel => exact ⟨j + 1, _, by omega, by go_num, NH, NO, NG⟩
          case measure => simp [intOf]; omega
        · have NO : Hid (OwnI w.heap.size wi (.slice (some ⟨g, 0, none⟩) 3 c1) (combR (1) par rows (k + 1))) := by
            have e := half_end hh.out (by rw [HL.out]; omega)
            rw [NX.out, ← e]; exact ho
          have NG := Lib.hid hg.out
          clear hh ho hg
          go_wp2
          go_roundw
          case rel => exact ⟨k + 1, by omega, by go_num, NO, NG⟩
          case measure => simp [intOf]; omega
    · have hkn : k = n := by omega
      subst hkn
      go_wp2
      go_ret
      exact ints_post (v := .slice (some ⟨g, 0, none⟩) 3 c1) ho.out hg.out
set_option maxHeartbeats 2000000 in
theorem combined_m1 (w : World) (po : Option Addr) (pc : Nat) (par : List Int) (ao : Option Addr) (n cap : Nat) (rows : List (List Int)) (hp : IntsAt w po 3 pc par) (hpo : OneP par) (h : RowsAt w ao n cap rows) (hr : ∀ i, i < n → (rows.getD i []).length = 0 ∨ OneP (rows.getD i [])) :
    Calls Try.prog 49 #[.slice po 3 pc, .slice ao n cap, .int .i64 (-1)] w (IntsPost w (combR (-1) par rows n)) := by
  have hm := TabAt.le h
  have HR := Lib.hid hr
  have HPO := Lib.hid hpo
  clear hr hpo
  go_enter Try.func49, Try.ntmps49
  go_wp2_with fail
  refine (clone_any _ _ _ _ par hp (by omega)).mono ?_
  rintro e w1 ⟨a1, c1, rfl, o1, g1⟩
  rw [HPO.out.1] at o1 ⊢
  obtain ⟨g, e1, -, hgB, -⟩ := OwnI.at o1 (by rw [HPO.out.1]; omega)
  subst e1
  have O1 := Lib.hid o1
  have G1 := Lib.hid g1
  clear o1 g1
  go_wp2_with fail
  go_loopw [9, 10, 11, 16] (fun u v x q wr => ∃ k : Nat, k ≤ n ∧ q = .int .i64 k ∧ Hid (OwnI w.heap.size wr (.slice (some ⟨g, 0, none⟩) 3 c1) (combR (-1) par rows k)) ∧ Hid (w.grownBy wr none)) (fun _ _ _ q _ => n - (intOf q).toNat)
  case atStart => exact ⟨0, by omega, rfl, O1, G1⟩
  case round =>
    clear O1 G1
    obtain ⟨k, hk, rfl, ho, hg⟩ := hrel
    obtain ⟨wo, rfl⟩ : ∃ wo : World, wo = wr := ⟨_, rfl⟩
    by_cases hlt : k < n
    · obtain ⟨b, off, ro, rc, rfl, cc0, hrow⟩ := h.at k hlt
      have cc := hg.out.cell cc0 (by simp)
      clear cc0
      have hcase := HR.out k hlt
      have hacc := combR_one (s := (-1)) (rows := rows) HPO.out k
      obtain ⟨row, hz⟩ : ∃ z, rows.getD k [] = z := ⟨_, rfl⟩
      obtain ⟨acc, ha⟩ : ∃ z, combR (-1) par rows k = z := ⟨_, rfl⟩
      obtain ⟨l, hll⟩ : ∃ l, row.length = l := ⟨_, rfl⟩
      rw [hz, hll] at cc hrow
      rw [hz] at hcase
      rw [ha] at ho hacc
      have hl3 : l ≤ 3 := by
        rcases hcase with e | e
        · omega
        · have := e.1; omega
      have NX := Lib.hid (show combR (-1) par rows (k + 1) = rowAdd (-1) acc row by rw [combR, ha, hz])
      have HROW := Lib.hid hrow
      have HC := Lib.hid hcase
      have HA := Lib.hid hacc
      have HL := Lib.hid hll
      clear hz ha hll hrow hcase hacc
      have H0 := Lib.hid (half_start (-1) acc row)
      go_wp2_with fail
      go_loopw [10, 11, 22] (fun u v q wr => ∃ (j : Nat) (zs : List Int), j ≤ l ∧ q = .int .i64 j ∧ Hid (HalfAdd (-1) acc row j zs) ∧ Hid (OwnI w.heap.size wr (.slice (some ⟨g, 0, none⟩) 3 c1) zs) ∧ Hid (w.grownBy wr none)) (fun _ _ q _ => l - (intOf q).toNat)
      case atStart => exact ⟨0, acc, by omega, rfl, H0, ho, hg⟩
      case round =>
        clear H0 ho hg cc
        obtain ⟨j, zs, hj, rfl, hh, ho, hg⟩ := hrel
        obtain ⟨wi, rfl⟩ : ∃ wi : World, wi = wr := ⟨_, rfl⟩
        by_cases hjl : j < l
        · have hone : OneP row := by
            rcases HC.out with e | e
            · have := HL.out; omega
            · exact e
          have hrow2 : IntsAt wi ro l rc row := IntsAt.grown HROW.out hg.out
          obtain ⟨rb, roff, rfl, -, hcell⟩ := IntsAt.addr hrow2 (by omega)
          have cy := hcell j hjl
          obtain ⟨cz, fz, -, hset⟩ := ints_at1 ho.out j (by rw [hh.out.1, HA.out.1]; omega)
          rw [hh.out.2.2 j (Nat.le_refl _)] at cz
          have yb := one_getD hone j (by omega)
          have zb := one_getD HA.out j (by omega)
          obtain ⟨y, hy⟩ : ∃ y, row.getD j 0 = y := ⟨_, rfl⟩
          obtain ⟨z, hz⟩ : ∃ z, acc.getD j 0 = z := ⟨_, rfl⟩
          rw [hy] at cy yb
          rw [hz] at cz zb
          obtain ⟨y0, y1⟩ := yb
          obtain ⟨z0, z1⟩ := zb
          have NH := Lib.hid (half_step hh.out (x := ((z + -y) % 991)) (by rw [HA.out.1]; omega) (by rw [HL.out]; exact hjl) (by rw [hy, hz]; omega))
          have NO := Lib.hid (hset ((z + -y) % 991))
          have NG : Hid (w.grownBy (wi.setCell ⟨g, j, none⟩ (.int .i64 ((z + -y) % 991))) none) := Lib.hid (gSet hg.out hgB _)
          clear hy hz hset hcell hrow2 hone hh ho hg HROW HC HA HL NX hgB h hp
          go_wp2
          go_roundw
          case rel => exact ⟨j + 1, _, by omega, by go_num, NH, NO, NG⟩
          case measure => simp [intOf]; omega
        · have NO : Hid (OwnI w.heap.size wi (.slice (some ⟨g, 0, none⟩) 3 c1) (combR (-1) par rows (k + 1))) := by
            have e := half_end hh.out (by rw [HL.out]; omega)
            rw [NX.out, ← e]; exact ho
          have NG := Lib.hid hg.out
          clear hh ho hg
          go_wp2
          go_roundw
          case rel => exact ⟨k + 1, by omega, by go_num, NO, NG⟩
          case measure => simp [intOf]; omega
    · have hkn : k = n := by omega
      subst hkn
      go_wp2
      go_ret
      exact ints_post (v := .slice (some ⟨g, 0, none⟩) 3 c1) ho.out hg.out
end Go.Proofs.Ytkacopgfnkoifaa
