/- Drawn tables. -/
import Derived.Test.YtilgcfgbfhmdcaaOpen
import Derived.Test.YtilgcfgbfhmdcaaBools
import Derived.WalkKit
import Derived.Lib.Hide
import Derived.Deep.QuietTactic
import Derived.BigQuiet
namespace Go.Proofs.Ytilgcfgbfhmdcaa
open Go.RowKit
/-- a drawn table -/
def GridPost (rb c : Nat) (w : World) (e : Ending) (w' : World) : Prop :=
  ∃ rows : List (List Bool), ∃ ao cap, rows.length ≤ 5 ∧ e = .returned (.slice ao rows.length cap) ∧ GridAt w' ao rows.length cap rows ∧ w.grownBy w' (some rb) ∧ Rdr w' rb c
theorem OwnG.shape {B M : Nat} {w : World} {v : Value} {rows : List (List Bool)} (h : OwnG B M w v rows) : ∃ ao cap, v = .slice ao rows.length cap ∧ GridAt w ao rows.length cap rows := OwnTab.shape h
theorem OwnG.row {B M : Nat} {w w' : World} {v : Value} {rows : List (List Bool)} {row : Option Nat} (h : OwnG B M w v rows) (hg : w.grownBy w' row) (hr : ∀ k, row = some k → k < B ∨ M ≤ k) : OwnG B M w' v rows := OwnTab.row h hg hr
theorem OwnG.grown {B M : Nat} {w w' : World} {v : Value} {rows : List (List Bool)} (h : OwnG B M w v rows) (hg : w.grownBy w' none) : OwnG B M w' v rows := OwnTab.grown h hg
theorem OwnG.now {B M : Nat} {w : World} {v : Value} {rows : List (List Bool)} (h : OwnG B M w v rows) : OwnG B w.heap.size w v rows := OwnTab.now h
set_option maxHeartbeats 4000000 in
theorem l92Allowed_any (rb c : Nat) (w : World) (hr : Rdr w rb c) (hc : c ≤ 800000) :
    Calls Try.prog 23 #[.pointer (some ⟨rb, 0, none⟩)] w (GridPost rb (c + 100) w) := by
  have hlt := hr.lt
  go_enter Try.func23, Try.ntmps23
  go_wp2_with fail
  refine (pick_any _ 5 _ _ hr (by omega) (by omega) (by omega)).mono ?_
  rintro e w1 ⟨n0, rfl, k1, g1, r1⟩
  obtain ⟨n, hn⟩ : ∃ n : Nat, n = n0 + 1 := ⟨_, rfl⟩
  have en : (1 : Int) + (n0 : Int) = (n : Int) := by omega
  have hn5 : n ≤ 5 := by omega
  have hn1 : 1 ≤ n := by omega
  have EN := Lib.hid en
  have z1 := g1.size
  have O0 := Lib.hid ((ownG_nil w.heap.size w1 z1).now)
  have G0 := Lib.hid (gAlloc g1 (.cells #[] 30))
  have R0 := Lib.hid (r1.al (.cells #[] 30))
  clear hn en g1 r1 hr
  go_wp2_with fail
  rw [EN.out]
  clear k1 EN
  go_loopw [4, 5] (fun v q wr => ∃ i : Nat, ∃ rows : List (List Bool), i ≤ n ∧ q = .int .i64 i ∧ rows.length = i ∧ Hid (OwnG w.heap.size wr.heap.size wr v rows) ∧ Hid (w.grownBy wr (some rb)) ∧ Hid (Rdr wr rb (c + 1 + i * 12))) (fun _ q _ => n - (intOf q).toNat)
  case atStart => exact ⟨0, [], by omega, rfl, rfl, O0, G0, R0⟩
  case round =>
    clear O0 G0 R0
    obtain ⟨i, rows, hi, rfl, hrl, ho, hg, hr⟩ := hrel
    obtain ⟨wo, rfl⟩ : ∃ wo : World, wo = wr := ⟨_, rfl⟩
    have HRL := Lib.hid hrl
    clear hrl
    by_cases hin : i < n
    · have zo := hg.out.size
      have I0 := Lib.hid (own_nilB wo.heap.size wo (Nat.le_refl _))
      have T0 := Lib.hid (OwnG.grown ho.out (grown_alloc wo (.cells #[] 4) none))
      have G1 := Lib.hid (gAlloc hg.out (.cells #[] 4))
      have R1 := Lib.hid (hr.out.al (.cells #[] 4))
      have Z1 := Lib.hid (show wo.heap.size ≤ (wo.alloc (.cells #[] 4)).heap.size by simp)
      clear hg hr ho
      go_wp2_with fail
      go_loopw [6, 7] (fun x q wi => ∃ k : Nat, ∃ cs : List Bool, k ≤ n ∧ q = .int .i64 k ∧ cs.length = k ∧ Hid (OwnB wo.heap.size wi x cs) ∧ Hid (OwnG w.heap.size wo.heap.size wi u4 rows) ∧ Hid (w.grownBy wi (some rb)) ∧ Hid (wo.heap.size ≤ wi.heap.size) ∧ Hid (Rdr wi rb (c + 1 + i * 12 + k * 2))) (fun _ q _ => n - (intOf q).toNat)
      case atStart => exact ⟨0, [], by omega, rfl, rfl, I0, T0, G1, Z1, R1⟩
      case round =>
        clear I0 T0 G1 Z1 R1
        obtain ⟨k, cs, hk, rfl, hcl, ho, ht, hg, hz, hrd⟩ := hrel
        have HCL := Lib.hid hcl
        clear hcl
        by_cases hkn : k < n
        · have hcc : c + 1 + i * 12 + k * 2 ≤ 900000 := by omega
          go_wp2_with fail
          refine (pick_any _ 3 _ _ hrd.out (by omega) (by omega) (by omega)).mono ?_
          rintro e w2 ⟨v2, rfl, k2, g2, r2⟩
          have O2 := Lib.hid (OwnB.row ho.out g2 (fun k e => by simp at e; omega))
          have T2 := Lib.hid (OwnG.row ht.out g2 (fun k e => .inl (by simp at e; omega)))
          have G2 := Lib.hid (grown_trans hg.out g2)
          have Z2 := Lib.hid (Nat.le_trans hz.out g2.size)
          have R2 := Lib.hid r2
          clear ho ht hg hz hrd g2 r2
          by_cases hv : v2 = 0
          · subst hv
            by_cases hik : i = k
            · have hik' : ((i : Int) == (k : Int)) = true := by simp; omega
              clear hik
              go_wp2_with fail
              refine (pick_any _ 4 _ _ R2.out (by omega) (by omega) (by omega)).mono ?_
              rintro e w3 ⟨v3, rfl, k3, g3, r3⟩
              have O3 := Lib.hid (OwnB.row O2.out g3 (fun k e => by simp at e; omega))
              have T3 := Lib.hid (OwnG.row T2.out g3 (fun k e => .inl (by simp at e; omega)))
              have G3 := Lib.hid (grown_trans G2.out g3)
              have Z3 := Lib.hid (Nat.le_trans Z2.out g3.size)
              have R3 := Lib.hid r3
              clear O2 T2 G2 Z2 R2 g3 r3
              by_cases h3 : v3 = 0
              · subst h3
                have Y := Lib.hid (one_bool w3 (false))
                have O5 := Lib.hid (OwnB.grown O3.out (grown_alloc w3 (.cells #[.bool (false)] 4) none))
                have T5 := Lib.hid (OwnG.grown T3.out (grown_alloc w3 (.cells #[.bool (false)] 4) none))
                have G5 := Lib.hid (gAlloc G3.out (.cells #[.bool (false)] 4))
                have R5 := Lib.hid (R3.out.al (.cells #[.bool (false)] 4))
                have HB := Lib.hid (show wo.heap.size ≤ (w3.alloc (.cells #[.bool (false)] 4)).heap.size by have := Z3.out; simp; omega)
                clear O3 T3 G3 R3
                go_wp2_with (at_builtin; refine app_bools rfl (.tmp 23) (.tmp 37) rfl O5.out Y.out rfl rfl HB.out (by have := HCL.out; simp; omega) ?_; intro v9 w9 o9 g9)
                have bnd := fun k e => (World.ownsRow.lt O5.out k e).1
                have T9 := Lib.hid (OwnG.row T5.out g9 (fun k e => .inr (bnd k e)))
                have G9 := Lib.hid (grown_own G5.out O5.out g9 (by omega))
                have R9 := Lib.hid (R5.out.row g9 (fun b hb e => by have := bnd b e.symm; omega))
                have Z9 := Lib.hid (Nat.le_trans HB.out g9.size)
                have O9 := Lib.hid o9
                clear bnd o9 g9 O5 T5 G5 R5 Y HB
                go_wp2
                go_roundw
                case rel => exact ⟨k + 1, cs ++ [false], by omega, by go_num, by simp; exact HCL.out, O9, T9, G9, Z9, R9.out.mono (by omega)⟩
                case measure => simp [intOf]; omega
              · have h3' : (0 : Int) < (v3 : Int) := by omega
                have h3n : 0 < v3 := by omega
                clear h3
                have Y := Lib.hid (one_bool w3 (true))
                have O5 := Lib.hid (OwnB.grown O3.out (grown_alloc w3 (.cells #[.bool (true)] 4) none))
                have T5 := Lib.hid (OwnG.grown T3.out (grown_alloc w3 (.cells #[.bool (true)] 4) none))
                have G5 := Lib.hid (gAlloc G3.out (.cells #[.bool (true)] 4))
                have R5 := Lib.hid (R3.out.al (.cells #[.bool (true)] 4))
                have HB := Lib.hid (show wo.heap.size ≤ (w3.alloc (.cells #[.bool (true)] 4)).heap.size by have := Z3.out; simp; omega)
                clear O3 T3 G3 R3
                go_wp2_with (at_builtin; refine app_bools rfl (.tmp 23) (.tmp 37) rfl O5.out Y.out rfl rfl HB.out (by have := HCL.out; simp; omega) ?_; intro v9 w9 o9 g9)
                have bnd := fun k e => (World.ownsRow.lt O5.out k e).1
                have T9 := Lib.hid (OwnG.row T5.out g9 (fun k e => .inr (bnd k e)))
                have G9 := Lib.hid (grown_own G5.out O5.out g9 (by omega))
                have R9 := Lib.hid (R5.out.row g9 (fun b hb e => by have := bnd b e.symm; omega))
                have Z9 := Lib.hid (Nat.le_trans HB.out g9.size)
                have O9 := Lib.hid o9
                clear bnd o9 g9 O5 T5 G5 R5 Y HB
                go_wp2
                go_roundw
                case rel => exact ⟨k + 1, cs ++ [true], by omega, by go_num, by simp; exact HCL.out, O9, T9, G9, Z9, R9.out.mono (by omega)⟩
                case measure => simp [intOf]; omega
            · have hik' : ((i : Int) == (k : Int)) = false := by simp; omega
              clear hik
              have Y := Lib.hid (one_bool w2 (false))
              have O5 := Lib.hid (OwnB.grown O2.out (grown_alloc w2 (.cells #[.bool (false)] 4) none))
              have T5 := Lib.hid (OwnG.grown T2.out (grown_alloc w2 (.cells #[.bool (false)] 4) none))
              have G5 := Lib.hid (gAlloc G2.out (.cells #[.bool (false)] 4))
              have R5 := Lib.hid (R2.out.al (.cells #[.bool (false)] 4))
              have HB := Lib.hid (show wo.heap.size ≤ (w2.alloc (.cells #[.bool (false)] 4)).heap.size by have := Z2.out; simp; omega)
              clear O2 T2 G2 R2
              go_wp2_with (at_builtin; refine app_bools rfl (.tmp 23) (.tmp 37) rfl O5.out Y.out rfl rfl HB.out (by have := HCL.out; simp; omega) ?_; intro v9 w9 o9 g9)
              have bnd := fun k e => (World.ownsRow.lt O5.out k e).1
              have T9 := Lib.hid (OwnG.row T5.out g9 (fun k e => .inr (bnd k e)))
              have G9 := Lib.hid (grown_own G5.out O5.out g9 (by omega))
              have R9 := Lib.hid (R5.out.row g9 (fun b hb e => by have := bnd b e.symm; omega))
              have Z9 := Lib.hid (Nat.le_trans HB.out g9.size)
              have O9 := Lib.hid o9
              clear bnd o9 g9 O5 T5 G5 R5 Y HB
              go_wp2
              go_roundw
              case rel => exact ⟨k + 1, cs ++ [false], by omega, by go_num, by simp; exact HCL.out, O9, T9, G9, Z9, R9.out.mono (by omega)⟩
              case measure => simp [intOf]; omega
          · have hv' : (0 : Int) < (v2 : Int) := by omega
            have hvd : decide ((0 : Int) < (v2 : Int)) = true := by simp; omega
            clear hv
            have Y := Lib.hid (one_bool w2 (true))
            have O5 := Lib.hid (OwnB.grown O2.out (grown_alloc w2 (.cells #[.bool (true)] 4) none))
            have T5 := Lib.hid (OwnG.grown T2.out (grown_alloc w2 (.cells #[.bool (true)] 4) none))
            have G5 := Lib.hid (gAlloc G2.out (.cells #[.bool (true)] 4))
            have R5 := Lib.hid (R2.out.al (.cells #[.bool (true)] 4))
            have HB := Lib.hid (show wo.heap.size ≤ (w2.alloc (.cells #[.bool (true)] 4)).heap.size by have := Z2.out; simp; omega)
            clear O2 T2 G2 R2
            go_wp2_with (at_builtin; refine app_bools rfl (.tmp 23) (.tmp 37) rfl O5.out Y.out rfl rfl HB.out (by have := HCL.out; simp; omega) ?_; intro v9 w9 o9 g9)
            have bnd := fun k e => (World.ownsRow.lt O5.out k e).1
            have T9 := Lib.hid (OwnG.row T5.out g9 (fun k e => .inr (bnd k e)))
            have G9 := Lib.hid (grown_own G5.out O5.out g9 (by omega))
            have R9 := Lib.hid (R5.out.row g9 (fun b hb e => by have := bnd b e.symm; omega))
            have Z9 := Lib.hid (Nat.le_trans HB.out g9.size)
            have O9 := Lib.hid o9
            clear bnd o9 g9 O5 T5 G5 R5 Y HB
            go_wp2
            go_roundw
            case rel => exact ⟨k + 1, cs ++ [true], by omega, by go_num, by simp; exact HCL.out, O9, T9, G9, Z9, R9.out.mono (by omega)⟩
            case measure => simp [intOf]; omega
        · have hkn' : k = n := by omega
          have Y := Lib.hid (one_row wr u6)
          have O2 := Lib.hid (OwnB.grown ho.out (grown_alloc wr (.cells #[u6] 30) none))
          have T2 := Lib.hid (OwnG.grown ht.out (grown_alloc wr (.cells #[u6] 30) none))
          have G2 := Lib.hid (gAlloc hg.out (.cells #[u6] 30))
          have R2 := Lib.hid (hrd.out.al (.cells #[u6] 30))
          have HB := Lib.hid (show wo.heap.size ≤ (wr.alloc (.cells #[u6] 30)).heap.size by have := hz.out; simp; omega)
          obtain ⟨q1, q2, rfl, _⟩ := ho.out.shape
          clear ho ht hg hz hrd
          go_wp2_with (at_builtin; refine app_grid rfl (.tmp 39) (.tmp 41) rfl T2.out O2.out Y.out rfl rfl zo HB.out (by have := HRL.out; omega) ?_; intro v9 w9 o9 g9)
          have bnd := T2.out
          have G9 : w.grownBy w9 (some rb) := by
            obtain ⟨vs, h1, _⟩ := T2.out
            exact grown_own G2.out h1 g9 (Nat.le_refl _)
          have R9 : Rdr w9 rb (c + 1 + i * 12 + k * 2) := by
            obtain ⟨vs, h1, _⟩ := T2.out
            exact R2.out.row g9 (fun b hb e => by have := (h1.bound b e.symm).1; omega)
          have O9 := Lib.hid o9
          have HG9 := Lib.hid G9
          have HR9 := Lib.hid R9
          clear bnd G9 R9 o9 g9 T2 O2 G2 R2 Y HB
          go_wp2
          go_roundw
          case rel => exact ⟨i + 1, _, by omega, by go_num, by simp; exact HRL.out, O9, HG9, HR9.out.mono (by omega)⟩
          case measure => simp [intOf]; omega
    · have hin' : i = n := by omega
      have hcc : c + 1 + i * 12 ≤ 900000 := by omega
      obtain ⟨q1, q2, rfl, hga⟩ := ho.out.shape
      go_wp2_with fail
      refine (pick_any _ 20 _ _ hr.out (by omega) (by omega) (by omega)).mono ?_
      rintro e w2 ⟨v2, rfl, k2, g2, r2⟩
      have O2 := Lib.hid (OwnG.now (OwnG.row ho.out g2 (fun k e => .inl (by simp at e; omega))))
      have G2 := Lib.hid (grown_trans hg.out g2)
      have R2 := Lib.hid r2
      clear ho hg hr g2 r2 hga
      by_cases h0 : v2 = 0
      · subst h0
        go_wp2_with fail
        refine (pick_any _ n _ _ R2.out (by omega) (by omega) (by omega)).mono ?_
        rintro e w3 ⟨v3, rfl, k3, g3, r3⟩
        have O3 := Lib.hid (OwnG.row O2.out g3 (fun k e => .inl (by simp at e; omega)))
        have G3 := Lib.hid (grown_trans G2.out g3)
        have R3 := Lib.hid r3
        obtain ⟨q3, q4, e3, hga⟩ := O3.out.shape
        simp only [Value.slice.injEq] at e3
        obtain ⟨rfl, _, rfl⟩ := e3
        have hcap := (TabAt.le hga).1
        have hk3 : v3 ≤ rows.length := by have := HRL.out; omega
        have hk3c : (v3 : Int) ≤ q2 := by omega
        have hk3l : (v3 : Int) ≤ rows.length := by omega
        have TP := Lib.hid (TabAt.pre hga v3 hk3)
        have HL3 := Lib.hid (show (rows.take v3).length = v3 by simp; omega)
        clear hga g3 r3 O2 G2 R2
        go_wp2_with fail
        go_ret
        exact ⟨rows.take v3, q1, q2, by rw [HL3.out]; omega, by rw [HL3.out]; rfl, by rw [HL3.out]; exact TP.out, G3.out, R3.out.mono (by omega)⟩
      · have h0' : ((v2 : Int) == 0) = false := by simp; omega
        clear h0
        by_cases h1 : v2 = 1
        · subst h1
          go_wp2_with fail
          refine (pick_any _ n _ _ R2.out (by omega) (by omega) (by omega)).mono ?_
          rintro e w3 ⟨v3, rfl, k3, g3, r3⟩
          have O3 := Lib.hid (OwnG.now (OwnG.row O2.out g3 (fun k e => .inl (by simp at e; omega))))
          have G3 := Lib.hid (grown_trans G2.out g3)
          have R3 := Lib.hid r3
          clear g3 r3 O2 G2 R2
          have hk3 : v3 < rows.length := by have := HRL.out; omega
          have z3 := G3.out.size
          obtain ⟨g, e1, hBg, ⟨v0, c0⟩, f0, T4⟩ := OwnTab.setRow (OwnG.grown O3.out (grown_alloc w3 (.cells #[.bool true, .bool true] 4) none)) (by decide) z3 v3 hk3 (r := [true, true]) (own_lit 4 w3 #[.bool true, .bool true] (by simp))
          subst e1
          have hk3l : (v3 : Int) < rows.length := by omega
          have hT := Lib.hid T4
          have HL4 := Lib.hid (show (rows.set v3 [true, true]).length = rows.length by simp)
          have GS := Lib.hid (gSet (gAlloc G3.out (.cells #[.bool true, .bool true] 4)) (p := ⟨g, v3, none⟩) hBg (.slice (some ⟨w3.heap.size, 0, none⟩) 2 2))
          have RS := Lib.hid ((R3.out.al (.cells #[.bool true, .bool true] 4)).set (p := ⟨g, v3, none⟩) (by simp; omega) (.slice (some ⟨w3.heap.size, 0, none⟩) 2 2))
          clear T4 hBg O3
          go_wp2_with fail
          go_ret
          obtain ⟨q5, q6, e5, hga⟩ := OwnG.shape hT.out
          rw [HL4.out] at e5 hga
          exact ⟨rows.set v3 [true, true], q5, q6, by rw [HL4.out]; have := HRL.out; omega, by rw [HL4.out, ← e5]; rfl, by rw [HL4.out]; exact hga, GS.out, RS.out.mono (by omega)⟩
        · have h1' : ((v2 : Int) == 1) = false := by simp; omega
          clear h1
          go_wp2_with fail
          go_ret
          obtain ⟨q5, q6, e5, hga⟩ := OwnG.shape O2.out
          exact ⟨rows, q5, q6, by have := HRL.out; omega, by rw [← e5]; rfl, hga, G2.out, R2.out.mono (by omega)⟩
def DrawGPost (w : World) (e : Ending) (w' : World) : Prop :=
  ∃ rows : List (List Bool), ∃ ao cap, rows.length ≤ 5 ∧ e = .returned (.slice ao rows.length cap) ∧ GridAt w' ao rows.length cap rows ∧ w.grownBy w' none
theorem drawAssignCount_any (w : World) (ao : Option Addr) (n cap : Nat) (hco : CodeAt w ao n cap) :
    Calls Try.prog 15 #[.slice ao n cap] w (DrawGPost w) := by
  go_enter Try.func15, Try.ntmps15
  go_wp2_with fail
  refine (l6Open_any _ _ _ _ hco).mono ?_
  rintro e w1 ⟨rb, rfl, z1, g1, r1⟩
  go_wp2_with fail
  refine (l92Allowed_any _ _ _ r1 (by omega)).mono ?_
  rintro e w2 ⟨rows, a2, c2, l2, rfl, h2, g2, _⟩
  go_wp2_with fail
  go_ret
  exact ⟨rows, a2, c2, l2, rfl, h2, grown_new g1 g2 z1⟩
end Go.Proofs.Ytilgcfgbfhmdcaa
