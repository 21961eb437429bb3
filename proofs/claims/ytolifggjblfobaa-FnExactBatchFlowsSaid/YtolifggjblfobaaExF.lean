/- Flows: copies, marks, comparisons of the exact statements. -/
import Derived.Test.YtolifggjblfobaaViewV
import Derived.WalkKit
import Derived.Lib.Hide
import Derived.Deep.QuietTactic
import Derived.BigQuiet
import Derived.Deep.RegionHeld3
namespace Go.Proofs.Ytolifggjblfobaa
open Go.RowKit
/-- flows whose names are within the range of an int -/
structure FlowsIn (w : World) (ao : Option Addr) (n cap : Nat) (fs : List F3) : Prop where
  at_ : FlowsAt w ao n cap fs
  wf : Wf fs
theorem OwnF.other {B M : Nat} {w w' : World} {u v : Value} {xs : List F3} (h : OwnF B w v xs) (g : w.grownBy w' u.ownBlock) (hv : (∀ k, v.ownBlock = some k → k < M) ∧ (∀ k, u.ownBlock = some k → M ≤ k) ∨ (∀ k, v.ownBlock = some k → M ≤ k) ∧ (∀ k, u.ownBlock = some k → k < M)) : OwnF B w' v xs := by
  refine OwnF.apart h g ?_
  cases hb : v.ownBlock with
  | none => exact .inl rfl
  | some k =>
    refine .inr fun e => ?_
    rcases hv with ⟨a, b⟩ | ⟨a, b⟩
    · have := a k hb; have := b k e.symm; omega
    · have := a k hb; have := b k e.symm; omega
theorem view_len (fs : List F3) : (viewL fs).length ≤ 16 := by
  by_cases h : FlowsP fs
  · rw [viewL_yes h, viewR_len]; exact h.1
  · rw [viewL_no h]; simp
theorem szFlowS_any (w : World) (ao : Option Addr) (n cap : Nat) (left : Int) (hn : n ≤ 9223372036854775807) (h0 : 0 ≤ left) (h1 : left ≤ 1048576) :
    Calls Try.prog 23 #[.slice ao n cap, .int .i64 left] w fun e w' => e = .returned (.int .i64 (if left < (n : Int) then -1 else left - n)) ∧ w = w' := by
  by_cases h : left < (n : Int)
  · rw [if_pos h]
    have h2 : left - (n : Int) < 0 := by omega
    go_enter Try.func23, Try.ntmps23
    go_wp2
    go_ret
    exact ⟨rfl, rfl⟩
  · rw [if_neg h]
    have h2 : ¬ left - (n : Int) < 0 := by omega
    go_enter Try.func23, Try.ntmps23
    go_wp2
    go_ret
    exact ⟨rfl, rfl⟩
theorem toFlow_any (w : World) (x y z : Int) :
    Calls Try.prog 44 #[.agg #[.int .i64 x, .int .i64 y, .int .i64 z]] w fun e w' => e = .returned (.agg #[.int .i64 x, .int .i64 y, .int .i64 z]) ∧ w.grownBy w' none := by
  go_enter Try.func44, Try.ntmps44
  go_wp2_with fail
  refine bodyPost_ret (v := .agg #[.int .i64 x, .int .i64 y, .int .i64 z]) (by simp [results, Try.results44, go_sem]) rfl ⟨rfl, (by (repeat (with_reducible (first | refine gDrew ?_ | refine gDrewN ?_ _ | refine gAlloc ?_ _))); exact grown_refl _ _)⟩
theorem eqFlow_same (w : World) (x y z : Int) :
    Calls Try.prog 45 #[.agg #[.int .i64 x, .int .i64 y, .int .i64 z], .agg #[.int .i64 x, .int .i64 y, .int .i64 z]] w fun e w' => e = .returned (.bool true) ∧ w.grownBy w' none := by
  go_enter Try.func45, Try.ntmps45
  go_wp2_with fail
  go_ret
  exact ⟨rfl, (by (repeat (with_reducible (first | refine gDrew ?_ | refine gDrewN ?_ _ | refine gAlloc ?_ _))); exact grown_refl _ _)⟩
theorem fcopy_step (xs : List F3) (n k : Nat) (hk : k < n) (hn : xs.length = n) : (xs.take k ++ List.replicate (n - k) f0).set k (xs.getD k f0) = xs.take (k + 1) ++ List.replicate (n - (k + 1)) f0 := by
  have hl : (xs.take k).length = k := by simp; omega
  rw [List.set_append_right _ _ (by omega), hl, Nat.sub_self, List.take_succ_eq_append_getElem (by omega), show n - k = (n - (k + 1)) + 1 by omega, List.replicate_succ, List.set_cons_zero, List.append_assoc]
  simp [List.getD_eq_getElem?_getD, List.getElem?_eq_getElem (l := xs) (i := k) (by omega)]
theorem fcopy_end (xs : List F3) (n : Nat) (hn : xs.length = n) : xs.take n ++ List.replicate (n - n) f0 = xs := by
  rw [Nat.sub_self, List.take_of_length_le (by omega)]; simp
def f0v : Value := .agg #[.int .i64 0, .int .i64 0, .int .i64 0]
theorem made_flows (n : Nat) : (madeCells f0v.cells (n * 3)).toList = allCells (List.replicate n f0) := by
  apply List.ext_getElem?
  intro j
  by_cases hj : j < n * 3
  · have h1 := allCells_at (List.replicate n f0) (j / 3) (j % 3) (by simp; omega) (by omega)
    rw [show j / 3 * 3 + j % 3 = j by omega] at h1
    have h2 : (List.replicate n f0).getD (j / 3) f0 = f0 := by
      simp [List.getD_eq_getElem?_getD, List.getElem?_replicate]
      split <;> rfl
    rw [h1, h2]
    have h3 : j % 3 = 0 ∨ j % 3 = 1 ∨ j % 3 = 2 := by omega
    have e3 : f0v.cells.size = 3 := rfl
    rcases h3 with e | e | e
    · simp [madeCells, hj, e3, e]; rfl
    · simp [madeCells, hj, e3, e]; rfl
    · simp [madeCells, hj, e3, e]; rfl
  · rw [List.getElem?_eq_none (by simp [madeCells]; omega), List.getElem?_eq_none (by rw [allCells_len]; simp; omega)]
set_option maxHeartbeats 1000000 in
theorem eqFlowS_same (w : World) (ao : Option Addr) (n cap : Nat) (bo : Option Addr) (cap' : Nat) (xs : List F3) (h : FlowsAt w ao n cap xs) (h' : FlowsAt w bo n cap' xs) :
    Calls Try.prog 26 #[.slice ao n cap, .slice bo n cap'] w fun e w' => e = .returned (.bool true) ∧ w.grownBy w' none := by
  have hm := h.max
  have hnm := h.le
  go_enter Try.func26, Try.ntmps26
  go_wp2
  go_loopw [5] (fun i wr => ∃ k : Nat, k ≤ n ∧ i = .int .i64 k ∧ Hid (w.grownBy wr none)) (fun i _ => n - (intOf i).toNat)
  case atStart => exact ⟨0, Nat.zero_le _, rfl, Lib.hid (grown_refl _ _)⟩
  case round =>
    obtain ⟨k, hk, rfl, hg⟩ := hrel
    obtain ⟨wo, rfl⟩ : ∃ wo : World, wo = wr := ⟨_, rfl⟩
    by_cases hlt : k < n
    · obtain ⟨b, off, rfl, hb, c0, c1, c2⟩ := (h.grown hg.out).at k hlt
      obtain ⟨b', off', rfl, hb', d0, d1, d2⟩ := (h'.grown hg.out).at k hlt
      obtain ⟨f, hf⟩ : ∃ f, xs.getD k f0 = f := ⟨_, rfl⟩
      rw [hf] at c0 c1 c2 d0 d1 d2
      clear hf
      obtain ⟨x, y, z⟩ := f
      simp only at c0 c1 c2 d0 d1 d2
      have i0 : (0 : Int) ≤ (k : Int) := by omega
      have i1 : (k : Int) < n := by omega
      have D0 : wo.drew.cell? ⟨b, off + k * 3, none⟩ = some (.int .i64 x) := c0
      have D1 : wo.drew.cell? ⟨b, off + k * 3 + 1, none⟩ = some (.int .i64 y) := c1
      have D2 : wo.drew.cell? ⟨b, off + k * 3 + 2, none⟩ = some (.int .i64 z) := c2
      have F0 : wo.drew.cell? ⟨b', off' + k * 3, none⟩ = some (.int .i64 x) := d0
      have F1 : wo.drew.cell? ⟨b', off' + k * 3 + 1, none⟩ = some (.int .i64 y) := d1
      have F2 : wo.drew.cell? ⟨b', off' + k * 3 + 2, none⟩ = some (.int .i64 z) := d2
      have GG := Lib.hid (gDrew hg.out)
      clear hg
      go_wp2_with fail
      go_region_held3 (fun w' => w'.cell? ⟨b, off + k * 3, none⟩ = some (.int .i64 x) ∧ w'.cell? ⟨b, off + k * 3 + 1, none⟩ = some (.int .i64 y) ∧ w'.cell? ⟨b, off + k * 3 + 2, none⟩ = some (.int .i64 z) ∧ w'.cell? ⟨b', off' + k * 3, none⟩ = some (.int .i64 x) ∧ w'.cell? ⟨b', off' + k * 3 + 1, none⟩ = some (.int .i64 y) ∧ w'.cell? ⟨b', off' + k * 3 + 2, none⟩ = some (.int .i64 z)) (first | go_keep | exact ⟨ex, ey, ez, fx, fy, fz⟩)
        (first | (go_at_call 45; refine (eqFlow_same _ x y z).mono ?_; rintro e w5 ⟨rfl, g5⟩; have ex := g5.cell D0 (by simp); have ey := g5.cell D1 (by simp); have ez := g5.cell D2 (by simp); have fx := g5.cell F0 (by simp); have fy := g5.cell F1 (by simp); have fz := g5.cell F2 (by simp)))
      have GE := Lib.hid (grown_trans GG.out g5)
      clear g5 c0 c1 c2 d0 d1 d2 D0 D1 D2 F0 F1 F2
      go_wp2
      go_roundw
      case rel => exact ⟨k + 1, by omega, by go_num, GE⟩
      case measure => simp [intOf]; omega
    · go_wp2
      go_ret
      exact ⟨rfl, hg.out⟩
set_option maxHeartbeats 1000000 in
theorem toFlowS_any (w : World) (ao : Option Addr) (n cap : Nat) (xs : List F3) (h : FlowsAt w ao n cap xs) (hn : n ≤ 100000000) :
    Calls Try.prog 25 #[.slice ao n cap] w (FlowPost w xs) := by
  obtain ⟨i0, hi, hz0, hz1, hz2⟩ := info_parts info_flow
  have hl := h.len
  have H := Lib.hid hl
  clear hl
  go_enter Try.func25, Try.ntmps25
  go_wp2_with (at_make; refine wpList_make_full w rfl _ _ 23 rfl w.heap.size 28 i0 f0v 3 Try.underlying23 hi hz0 hz1 .i64 .i64 n n n rfl rfl rfl rfl (by rw [hz2]; omega) (by unfold maxLen; omega) (Nat.le_refl _) ?_; intro w1 o1 g1)
  rw [made_flows] at o1
  have O2 : Hid (OwnF w.heap.size w1 (.slice (some ⟨w.heap.size, 0, none⟩) n n) (xs.take 0 ++ List.replicate (n - 0) f0)) := Lib.hid (by
    unfold OwnF
    simpa using o1)
  have G1 := Lib.hid g1
  clear o1 g1 hi hz0 hz1 hz2
  go_loopw [4] (fun i wr => ∃ k : Nat, k ≤ n ∧ i = .int .i64 k ∧ Hid (w.grownBy wr none) ∧ Hid (OwnF w.heap.size wr (.slice (some ⟨w.heap.size, 0, none⟩) n n) (xs.take k ++ List.replicate (n - k) f0))) (fun i _ => n - (intOf i).toNat)
  case atStart => exact ⟨0, Nat.zero_le _, rfl, G1, O2⟩
  case round =>
    clear O2 G1
    obtain ⟨k, hk, rfl, hg, ho⟩ := hrel
    obtain ⟨wo, rfl⟩ : ∃ wo : World, wo = wr := ⟨_, rfl⟩
    by_cases hlt : k < n
    · have hlen : (xs.take k ++ List.replicate (n - k) f0).length = n := by have := H.out; simp; omega
      have CS := Lib.hid (fcopy_step xs n k hlt H.out)
      obtain ⟨b, off, rfl, hb, c0, c1, c2⟩ := (h.grown hg.out).at k hlt
      obtain ⟨f, hf⟩ : ∃ f, xs.getD k f0 = f := ⟨_, rfl⟩
      rw [hf] at c0 c1 c2 CS
      clear hf
      obtain ⟨x, y, z⟩ := f
      simp only at c0 c1 c2
      have i0 : (0 : Int) ≤ (k : Int) := by omega
      have i1 : (k : Int) < n := by omega
      have HL := Lib.hid hlen
      clear hlen
      go_wp2_with fail
      refine (toFlow_any _ x y z).mono ?_
      rintro e w5 ⟨rfl, g5⟩
      obtain ⟨g, e1, -, fz, d0, d1, d2, OB, hg9⟩ := OwnF.put (ho.out.grown g5) (show k < _ by rw [HL.out]; exact hlt) x y z
      simp only [Option.some.injEq, Addr.mk.injEq, and_true] at e1
      subst e1
      rw [CS.out] at OB
      have O9 := Lib.hid OB
      have G9 := Lib.hid (grown_new (grown_trans hg.out g5) hg9 (Nat.le_refl _))
      clear OB hg9 g5 ho hg c0 c1 c2
      go_wp2
      go_roundw
      case rel => exact ⟨k + 1, by omega, by go_num, G9, O9⟩
      case measure => simp [intOf]; omega
    · have hkn : k = n := by omega
      have o3 := ho.out
      rw [hkn, fcopy_end xs n H.out] at o3
      have O3 := Lib.hid o3
      clear hkn o3
      go_wp2
      go_ret
      exact ⟨_, rfl, O3.out, hg.out⟩
/-- n marked flows, from k0 on -/
def markF (k0 : Int) (n : Nat) : List F3 := (List.range n).map fun i : Nat => ((k0 + 3 * (i : Int), k0 + 3 * (i : Int) + 1, k0 + 3 * (i : Int) + 1 + 1) : F3)
theorem markF_len (k0 : Int) (n : Nat) : (markF k0 n).length = n := by simp [markF]
theorem markF_getD (k0 : Int) (n i : Nat) (h : i < n) : (markF k0 n).getD i f0 = (k0 + 3 * (i : Int), k0 + 3 * (i : Int) + 1, k0 + 3 * (i : Int) + 1 + 1) := by
  simp [markF, List.getD_eq_getElem?_getD, h]
theorem markF_succ (k0 : Int) (n : Nat) : markF k0 (n + 1) = markF k0 n ++ [(k0 + 3 * (n : Int), k0 + 3 * (n : Int) + 1, k0 + 3 * (n : Int) + 1 + 1)] := by simp [markF, List.range_succ]
theorem markF_step (xs : List F3) (k0 : Int) (k : Nat) (hk : k < xs.length) : (markF k0 k ++ xs.drop k).set k (k0 + 3 * (k : Int), k0 + 3 * (k : Int) + 1, k0 + 3 * (k : Int) + 1 + 1) = markF k0 (k + 1) ++ xs.drop (k + 1) := by
  rw [List.set_append_right _ _ (by rw [markF_len]; omega), markF_len, Nat.sub_self, List.drop_eq_getElem_cons hk, List.set_cons_zero, markF_succ, List.append_assoc]
  rfl
def MarkFPost (B : Nat) (w : World) (ao : Option Addr) (n cap : Nat) (k0 : Int) (e : Ending) (w' : World) : Prop :=
  e = .returned (.int .i64 (k0 + 3 * (n : Int))) ∧ w.grownBy w' (Value.ownBlock (.slice ao n cap)) ∧ OwnF B w' (.slice ao n cap) (markF k0 n)
set_option maxHeartbeats 1000000 in
theorem markFlowS_any (B : Nat) (w : World) (ao : Option Addr) (n cap : Nat) (xs : List F3) (k0 : Int) (h : OwnF B w (.slice ao n cap) xs) (hl : xs.length = n) (hn : n ≤ 1000000000) (h0 : 0 ≤ k0) (h1 : k0 ≤ 1000000000000) :
    Calls Try.prog 27 #[.slice ao n cap, .int .i64 k0] w (MarkFPost B w ao n cap k0) := by
  have H := Lib.hid hl
  have Hs : Hid (OwnF B w (.slice ao n cap) (markF k0 0 ++ xs.drop 0)) := Lib.hid (by simpa [markF] using h)
  clear h hl
  go_enter Try.func27, Try.ntmps27
  go_wp2
  go_loopw [1, 5] (fun q i wr => ∃ k : Nat, k ≤ n ∧ i = .int .i64 k ∧ q = .int .i64 (k0 + 3 * (k : Int)) ∧ Hid (w.grownBy wr (Value.ownBlock (.slice ao n cap))) ∧ Hid (OwnF B wr (.slice ao n cap) (markF k0 k ++ xs.drop k))) (fun _ i _ => n - (intOf i).toNat)
  case atStart => exact ⟨0, Nat.zero_le _, rfl, by simp, grown_refl _ _, Hs⟩
  case round =>
    clear Hs
    obtain ⟨k, hk, rfl, rfl, hg, ho⟩ := hrel
    obtain ⟨wo, rfl⟩ : ∃ wo : World, wo = wr := ⟨_, rfl⟩
    by_cases hlt : k < n
    · have HL := Lib.hid (show (markF k0 k ++ xs.drop k).length = n by have := H.out; simp [markF_len]; omega)
      have ST := Lib.hid (markF_step xs k0 k (by have := H.out; omega))
      obtain ⟨g, rfl, -, fz, d0, d1, d2, OB, hg9⟩ := OwnF.put ho.out (show k < _ by rw [HL.out]; exact hlt) (k0 + 3 * (k : Int)) (k0 + 3 * (k : Int) + 1) (k0 + 3 * (k : Int) + 1 + 1)
      rw [ST.out] at OB
      have O9 := Lib.hid OB
      have G9 := Lib.hid (show w.grownBy _ (Value.ownBlock (.slice (some ⟨g, 0, none⟩) n cap)) from grown_trans hg.out hg9)
      have i0 : (0 : Int) ≤ (k : Int) := by omega
      have i1 : (k : Int) < n := by omega
      clear OB hg9 ho hg
      go_wp2
      go_roundw
      case rel => exact ⟨k + 1, by omega, by go_num, by go_num, G9, O9⟩
      case measure => simp [intOf]; omega
    · have hkn : k = n := by omega
      have o3 := ho.out
      have hd : xs.drop k = [] := by rw [List.drop_eq_nil_iff]; have := H.out; omega
      rw [hd, List.append_nil] at o3
      subst hkn
      have O3 := Lib.hid o3
      clear o3 hd
      go_wp2
      go_ret
      exact ⟨rfl, hg.out, O3.out⟩
set_option maxHeartbeats 1000000 in
theorem heldFlowS_any (w : World) (ao : Option Addr) (n cap : Nat) (k0 : Int) (h : FlowsAt w ao n cap (markF k0 n)) (hn : n ≤ 1000000000) (h0 : 0 ≤ k0) (h1 : k0 ≤ 1000000000000) :
    Calls Try.prog 28 #[.slice ao n cap, .int .i64 k0] w fun e w' => e = .returned (.int .i64 (k0 + 3 * (n : Int))) ∧ w = w' := by
  have hnm := h.le
  have hm := h.max
  go_enter Try.func28, Try.ntmps28
  go_wp2
  go_loop [1, 5] (fun q i => ∃ k : Nat, k ≤ n ∧ i = .int .i64 k ∧ q = .int .i64 (k0 + 3 * (k : Int))) (fun _ i => n - (intOf i).toNat)
  case atStart => exact ⟨0, Nat.zero_le _, rfl, by simp⟩
  case round =>
    obtain ⟨k, hk, rfl, rfl⟩ := hrel
    by_cases hlt : k < n
    · obtain ⟨b, off, rfl, hb, c0, c1, c2⟩ := h.at k hlt
      rw [markF_getD k0 n k hlt] at c0 c1 c2
      simp only at c0 c1 c2
      have i0 : (0 : Int) ≤ (k : Int) := by omega
      have i1 : (k : Int) < n := by omega
      go_wp2
      go_round
      case rel => exact ⟨k + 1, by omega, by go_num, by go_num⟩
      case measure => simp [intOf]; omega
    · have hkn : k = n := by omega
      subst hkn
      go_wp2
      go_ret
      exact ⟨rfl, rfl⟩
end Go.Proofs.Ytolifggjblfobaa
