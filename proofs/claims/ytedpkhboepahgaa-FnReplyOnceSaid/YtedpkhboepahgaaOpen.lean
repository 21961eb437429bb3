/- The small drawers: l6Open, l91Good, l91Is, l91Number, l92Serial. -/
import Derived.Test.YtedpkhboepahgaaRd
import Derived.WalkKit
import Derived.Lib.Hide
import Derived.Deep.QuietTactic
import Derived.BigQuiet
namespace Go.Proofs.Ytedpkhboepahgaa
open Go.RowKit
theorem rdr_new (w : World) (ao : Option Addr) (n cap : Nat) (hb : BytesAt w ao n w.heap.size) (h2 : n ≤ 2000) :
    Rdr (w.alloc (.cells #[.slice ao n cap, .int .i64 0] 85)) w.heap.size 0 :=
  ⟨ao, n, cap, 0, Nat.le_refl _, h2, heap_alloc_new w _, hb.grown (grown_alloc w _ none) (by simp)⟩
theorem BytesAt.less {w : World} {ao : Option Addr} {n m B : Nat} (h : BytesAt w ao n B) (hm : m ≤ n) : BytesAt w ao m B := by
  rcases h with h | ⟨b, off, e, hb, h⟩
  · exact .inl (by omega)
  · exact .inr ⟨b, off, e, hb, fun i hi => h i (by omega)⟩
/-- a code came in: n bytes -/
structure CodeAt (w : World) (ao : Option Addr) (n cap : Nat) : Prop where
  le : n ≤ cap
  max : cap ≤ 9223372036854775807
  bytes : BytesAt w ao n w.heap.size
theorem CodeAt.grown {w w' : World} {ao : Option Addr} {n cap : Nat} (h : CodeAt w ao n cap) (hg : w.grownBy w' none) : CodeAt w' ao n cap :=
  ⟨h.le, h.max, (h.bytes.grown hg (by simp)).up hg.size⟩
def OpenPost (w : World) (e : Ending) (w' : World) : Prop := ∃ rb, e = .returned (.pointer (some ⟨rb, 0, none⟩)) ∧ w.heap.size ≤ rb ∧ w.grownBy w' none ∧ Rdr w' rb 0
theorem l6Open_any (w : World) (ao : Option Addr) (n cap : Nat) (hco : CodeAt w ao n cap) :
    Calls Try.prog 42 #[.slice ao n cap] w (OpenPost w) := by
  obtain ⟨hn, hm, hb⟩ := hco
  by_cases h : n ≤ 2000
  · go_enter Try.func42, Try.ntmps42
    go_wp2
    go_ret
    exact ⟨_, rfl, Nat.le_refl _, grown_alloc w _ _, rdr_new w _ _ _ hb h⟩
  · have hcap : (2000:Int) ≤ cap := by omega
    go_enter Try.func42, Try.ntmps42
    go_wp2
    go_ret
    exact ⟨_, rfl, Nat.le_refl _, grown_alloc w _ _, rdr_new w _ _ _ (hb.less (by omega)) (by omega)⟩
theorem Rdr.lt {w : World} {rb c : Nat} (h : Rdr w rb c) : rb < w.heap.size := by
  obtain ⟨ao, n, cap, p, h1, h2, h3, h4⟩ := h
  exact (Array.getElem?_eq_some_iff.1 h3).1
/-- a drawn number of some kind -/
def IntPost (P : Int → Prop) (rb c : Nat) (w : World) (e : Ending) (w' : World) : Prop := ∃ v : Int, e = .returned (.int .i64 v) ∧ P v ∧ w.grownBy w' (some rb) ∧ Rdr w' rb c
def isGood (v : Int) : Prop := 1 ≤ v ∧ v ≤ 987
def isNear (v : Int) : Prop := -1 ≤ v ∧ v ≤ 997
theorem l91Good_any (rb c : Nat) (w : World) (hr : Rdr w rb c) (hc : c ≤ 900000) :
    Calls Try.prog 65 #[.pointer (some ⟨rb, 0, none⟩)] w (IntPost isGood rb (c + 2) w) := by
  go_enter Try.func65, Try.ntmps65
  go_wp2_with fail
  refine (pick_any _ 99 c _ hr (by omega) (by omega) (by omega)).mono ?_
  rintro e w1 ⟨v1, rfl, k1, g1, r1⟩
  go_wp2_with fail
  refine (pick_any _ 7 (c+1) _ r1 (by omega) (by omega) (by omega)).mono ?_
  rintro e w2 ⟨v2, rfl, k2, g2, r2⟩
  go_wp2_with fail
  go_ret
  exact ⟨_, rfl, by unfold isGood; omega, grown_trans g1 g2, r2⟩
theorem l91Is_any (rb c : Nat) (w : World) (hr : Rdr w rb c) (hc : c ≤ 900000) :
    Calls Try.prog 43 #[.pointer (some ⟨rb, 0, none⟩)] w (IntPost isNear rb (c + 3) w) := by
  go_enter Try.func43, Try.ntmps43
  go_wp2_with fail
  refine (pick_any _ 20 c _ hr (by omega) (by omega) (by omega)).mono ?_
  rintro e w1 ⟨v1, rfl, k1, g1, r1⟩
  by_cases h0 : v1 = 0
  · subst h0
    go_wp2_with fail
    have r1' := r1.grown (grown_alloc w1 (.cells #[.int .i64 0, .int .i64 996, .int .i64 997, .int .i64 (-1)] 3) none)
    refine (pick_any _ 4 (c+1) _ r1' (by omega) (by omega) (by omega)).mono ?_
    rintro e w2 ⟨v2, rfl, k2, g2, r2⟩
    obtain ⟨z, z0, z1, cz⟩ : ∃ z : Int, -1 ≤ z ∧ z ≤ 997 ∧ w2.cell? ⟨w1.heap.size, v2, none⟩ = some (.int .i64 z) := by
      have hv : v2 = 0 ∨ v2 = 1 ∨ v2 = 2 ∨ v2 = 3 := by omega
      rcases hv with rfl | rfl | rfl | rfl <;> exact ⟨_, by omega, by omega, new_cell g2 r1.lt _⟩
    go_wp2_with fail
    go_ret
    exact ⟨_, rfl, ⟨z0, z1⟩, grown_trans g1 (grown_trans (grown_alloc _ _ _) g2), r2.mono (by omega)⟩
  · have h0' : ((v1 : Int) == 0) = false := by simp; omega
    go_wp2_with fail
    refine (pick_any _ 99 (c+1) _ r1 (by omega) (by omega) (by omega)).mono ?_
    rintro e w2 ⟨v2, rfl, k2, g2, r2⟩
    go_wp2_with fail
    refine (pick_any _ 7 (c+2) _ r2 (by omega) (by omega) (by omega)).mono ?_
    rintro e w3 ⟨v3, rfl, k3, g3, r3⟩
    go_wp2_with fail
    go_ret
    exact ⟨_, rfl, by unfold isNear; omega, grown_trans g1 (grown_trans g2 g3), r3⟩
def isSerial (v : Int) : Prop := -1 ≤ v ∧ v ≤ 991
theorem l91Number_any (rb c : Nat) (w : World) (hr : Rdr w rb c) (hc : c ≤ 900000) :
    Calls Try.prog 67 #[.pointer (some ⟨rb, 0, none⟩)] w (IntPost isSerial rb (c + 3) w) := by
  go_enter Try.func67, Try.ntmps67
  go_wp2_with fail
  refine (pick_any _ 60 c _ hr (by omega) (by omega) (by omega)).mono ?_
  rintro e w1 ⟨v1, rfl, k1, g1, r1⟩
  by_cases h0 : v1 = 0
  · subst h0
    go_wp2_with fail
    have r1' := r1.grown (grown_alloc w1 (.cells #[.int .i64 (-1), .int .i64 990, .int .i64 991] 3) none)
    refine (pick_any _ 3 (c+1) _ r1' (by omega) (by omega) (by omega)).mono ?_
    rintro e w2 ⟨v2, rfl, k2, g2, r2⟩
    obtain ⟨z, z0, z1, cz⟩ : ∃ z : Int, -1 ≤ z ∧ z ≤ 991 ∧ w2.cell? ⟨w1.heap.size, v2, none⟩ = some (.int .i64 z) := by
      have hv : v2 = 0 ∨ v2 = 1 ∨ v2 = 2 := by omega
      rcases hv with rfl | rfl | rfl <;> exact ⟨_, by omega, by omega, new_cell g2 r1.lt _⟩
    go_wp2_with fail
    go_ret
    exact ⟨_, rfl, ⟨z0, z1⟩, grown_trans g1 (grown_trans (grown_alloc _ _ _) g2), r2.mono (by omega)⟩
  · have h0' : ((v1 : Int) == 0) = false := by simp; omega
    go_wp2_with fail
    refine (pick_any _ 99 (c+1) _ r1 (by omega) (by omega) (by omega)).mono ?_
    rintro e w2 ⟨v2, rfl, k2, g2, r2⟩
    go_wp2_with fail
    refine (pick_any _ 10 (c+2) _ r2 (by omega) (by omega) (by omega)).mono ?_
    rintro e w3 ⟨v3, rfl, k3, g3, r3⟩
    go_wp2_with fail
    go_ret
    exact ⟨_, rfl, by unfold isSerial; omega, grown_trans g1 (grown_trans g2 g3), r3⟩
end Go.Proofs.Ytedpkhboepahgaa
