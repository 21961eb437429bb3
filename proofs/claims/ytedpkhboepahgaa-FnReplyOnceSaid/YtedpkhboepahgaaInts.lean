/- Functions on slices of ints: clone, searches, comparisons, marks. -/
import Derived.Test.YtedpkhboepahgaaList
import Derived.WalkKit
import Derived.Lib.Hide
import Derived.Deep.QuietTactic
import Derived.BigQuiet
namespace Go.Proofs.Ytedpkhboepahgaa
open Go.RowKit
/-- the Bool of a proposition -/
noncomputable def pb (p : Prop) : Bool := @decide p (Classical.propDecidable p)
theorem pb_true {p : Prop} (h : p) : pb p = true := by unfold pb; simp [h]
theorem pb_false {p : Prop} (h : ¬ p) : pb p = false := by unfold pb; simp [h]
@[simp] theorem pb_True : pb True = true := pb_true trivial
@[simp] theorem pb_False : pb False = false := pb_false id
theorem pb_iff {p : Prop} : pb p = true ↔ p := by unfold pb; simp
theorem pb_not {p : Prop} : pb p = false ↔ ¬ p := by unfold pb; simp
theorem pb_congr {p q : Prop} (h : p ↔ q) : pb p = pb q := by rw [propext h]
/-- what a slice result is: of the call's own, reading as xs -/
def IntsPost (w : World) (xs : List Int) (e : Ending) (w' : World) : Prop :=
  ∃ ao cap, e = .returned (.slice ao xs.length cap) ∧ OwnI w.heap.size w' (.slice ao xs.length cap) xs ∧ w.grownBy w' none
theorem ints_post {w w' : World} {v : Value} {xs : List Int} (h : OwnI w.heap.size w' v xs) (hg : w.grownBy w' none) : IntsPost w xs (.returned v) w' := by
  obtain ⟨ao, cap, rfl, _, _⟩ := h.shape
  exact ⟨ao, cap, rfl, h, hg⟩
theorem make_own0 {w' : World} {e : TypeId} {B : Nat} {v : Value} (h : w'.ownsRow B e 1 v 0 []) : Own e B w' v [] := h
theorem clone_any (w : World) (ao : Option Addr) (n cap : Nat) (xs : List Int) (h : IntsAt w ao n cap xs) (hn : n ≤ 1000000000) :
    Calls Try.prog 49 #[.slice ao n cap] w (IntsPost w xs) := by
  obtain ⟨i0, hi, hz0, hz1, hz2⟩ := info_parts info_int
  have hl := h.len
  have H := Lib.hid hl
  clear hl
  go_enter Try.func49, Try.ntmps49
  go_wp2_with (first | (at_make; refine wpList_make_own w rfl _ _ 23 rfl w.heap.size 3 i0 (.int .i64 0) 1 Try.underlying23 hi hz0 hz1 .i64 .i64 n n rfl rfl rfl (by rw [hz2]; omega) (by unfold maxLen; omega) (Nat.le_refl _) ?_; intro w1 o1 g1) | (at_builtin; refine app_ints rfl (.tmp 5) (.tmp 6) rfl (xs := []) (make_own0 o1) (h.grown g1) rfl rfl g1.size (by have := H.out; simp; omega) ?_; intro v2 w2 o2 g2))
  go_ret
  exact ints_post o2 (grown_own g1 (make_own0 o1) g2 (Nat.le_refl _))
theorem drewN_cell {w w' : World} (h : Hid (∃ m, w' = w.drewN m)) (p : Addr) : w'.cell? p = w.cell? p := by
  obtain ⟨m, rfl⟩ := h.out; rfl
theorem drewN_more {w w' : World} (h : Hid (∃ m, w' = w.drewN m)) (n : Nat) : ∃ m, w'.drewN n = w.drewN m := by
  obtain ⟨m, rfl⟩ := h.out; exact ⟨_, World.drewN_drewN _ _ _⟩
theorem drewN_grown {w w' : World} (h : ∃ m, w' = w.drewN m) (row : Option Nat) : w.grownBy w' row := by
  obtain ⟨m, rfl⟩ := h; exact grown_drewN _ _ _
theorem not_mem_take {xs : List Int} {y : Int} (h : ∀ j, j < xs.length → xs.getD j 0 ≠ y) : ¬ y ∈ xs := by
  intro hm
  obtain ⟨i, hi, e⟩ := List.getElem_of_mem hm
  exact h i hi (by simp [List.getD_eq_getElem?_getD, List.getElem?_eq_getElem hi, e])
theorem mem_getD {xs : List Int} {k : Nat} (h : k < xs.length) : xs.getD k 0 ∈ xs := by
  simp [List.getD_eq_getElem?_getD, List.getElem?_eq_getElem h]
theorem same_of_getD {xs ys : List Int} (hl : xs.length = ys.length) (h : ∀ j, j < xs.length → xs.getD j 0 = ys.getD j 0) : xs = ys := by
  refine List.ext_getElem hl fun i h1 h2 => ?_
  have := h i h1
  simpa [List.getD_eq_getElem?_getD, List.getElem?_eq_getElem h1, List.getElem?_eq_getElem h2] using this
/- a search: 'for i := 0; i < len(l); i++ { if l[i] == n { return true } }; return false' -/
/- a comparison of two lists -/
set_option maxHeartbeats 1000000 in
theorem sameInts_any (w : World) (ao : Option Addr) (n cap : Nat) (xs : List Int) (bo : Option Addr) (m cap' : Nat) (ys : List Int) (h : IntsAt w ao n cap xs) (h' : IntsAt w bo m cap' ys) :
    Calls Try.prog 15 #[.slice ao n cap, .slice bo m cap'] w fun e w' => e = .returned (.bool (pb (xs = ys))) ∧ ∃ d, w' = w.drewN d := by
  have hl := h.len
  have hl' := h'.len
  have hm := RowAt.max h
  have hnm := RowAt.le h
  have H := Lib.hid hl
  have H' := Lib.hid hl'
  clear hl hl'
  by_cases hnm' : n = m
  · subst hnm'
    go_enter Try.func15, Try.ntmps15
    go_wp2
    go_loopw [5] (fun i wr => ∃ k : Nat, k ≤ n ∧ i = .int .i64 k ∧ Hid (∃ d, wr = w.drewN d) ∧ Hid (∀ j, j < k → xs.getD j 0 = ys.getD j 0)) (fun i _ => n - (intOf i).toNat)
    case atStart => exact ⟨0, Nat.zero_le _, rfl, ⟨0, rfl⟩, fun j hj => by omega⟩
    case round =>
      obtain ⟨k, hk, rfl, hd, hok⟩ := hrel
      by_cases hlt : k < n
      · obtain ⟨b, off, rfl, hb, hc⟩ := h.addr (by omega)
        obtain ⟨b', off', rfl, hb', hc'⟩ := h'.addr (by omega)
        obtain ⟨z, hz⟩ : ∃ z, xs.getD k 0 = z := ⟨_, rfl⟩
        obtain ⟨y, hy⟩ : ∃ y, ys.getD k 0 = y := ⟨_, rfl⟩
        have cz := hc k hlt
        have cy := hc' k hlt
        rw [hz] at cz
        rw [hy] at cy
        rw [← drewN_cell hd] at cz cy
        have Hz := Lib.hid hz
        have Hy := Lib.hid hy
        clear hz hc hy hc'
        have i0 : (0 : Int) ≤ (k : Int) := by omega
        have i1 : (k : Int) < n := by omega
        by_cases hzy : z = y
        · have hzy' : (z != y) = false := by simpa using hzy
          have Hzy := Lib.hid hzy
          clear hzy
          go_wp2_with fail
          go_quiet (fail)
          go_wp2
          go_roundw
          case rel => exact ⟨k + 1, by omega, by go_num, drewN_more hd _, fun j hj => by
            by_cases e : j = k
            · subst e; rw [Hz.out, Hy.out]; exact Hzy.out
            · exact hok.out j (by omega)⟩
          case measure => simp [intOf]; omega
        · have hzy' : (z != y) = true := by simpa using hzy
          have hp : pb (xs = ys) = false := pb_false fun e => hzy (by rw [← Hz.out, ← Hy.out, e])
          have Hp := Lib.hid hp
          clear hzy hp
          go_wp2_with fail
          go_quiet (fail)
          go_wp2
          go_ret
          exact ⟨by rw [Hp.out]; rfl, drewN_more hd _⟩
      · have hp : pb (xs = ys) = true := pb_true (same_of_getD (by rw [H.out, H'.out]) fun j hj => hok.out j (by have := H.out; omega))
        have Hp := Lib.hid hp
        clear hp
        go_wp2
        go_ret
        exact ⟨by rw [Hp.out]; rfl, hd.out⟩
  · have hne : ((n : Int) != (m : Int)) = true := by simp; omega
    have hp : pb (xs = ys) = false := pb_false fun e => hnm' (by rw [← H.out, ← H'.out, e])
    have Hp := Lib.hid hp
    clear hp hnm'
    go_enter Try.func15, Try.ntmps15
    go_wp2
    go_ret
    exact ⟨by rw [Hp.out]; rfl, 0, rfl⟩
set_option maxHeartbeats 1000000 in
theorem eqIntS_any (w : World) (ao : Option Addr) (n cap : Nat) (xs : List Int) (bo : Option Addr) (m cap' : Nat) (ys : List Int) (h : IntsAt w ao n cap xs) (h' : IntsAt w bo m cap' ys) :
    Calls Try.prog 34 #[.slice ao n cap, .slice bo m cap'] w fun e w' => e = .returned (.bool (pb (xs = ys))) ∧ ∃ d, w' = w.drewN d := by
  have hl := h.len
  have hl' := h'.len
  have hm := RowAt.max h
  have hnm := RowAt.le h
  have H := Lib.hid hl
  have H' := Lib.hid hl'
  clear hl hl'
  by_cases hnm' : n = m
  · subst hnm'
    go_enter Try.func34, Try.ntmps34
    go_wp2
    go_loopw [5] (fun i wr => ∃ k : Nat, k ≤ n ∧ i = .int .i64 k ∧ Hid (∃ d, wr = w.drewN d) ∧ Hid (∀ j, j < k → xs.getD j 0 = ys.getD j 0)) (fun i _ => n - (intOf i).toNat)
    case atStart => exact ⟨0, Nat.zero_le _, rfl, ⟨0, rfl⟩, fun j hj => by omega⟩
    case round =>
      obtain ⟨k, hk, rfl, hd, hok⟩ := hrel
      by_cases hlt : k < n
      · obtain ⟨b, off, rfl, hb, hc⟩ := h.addr (by omega)
        obtain ⟨b', off', rfl, hb', hc'⟩ := h'.addr (by omega)
        obtain ⟨z, hz⟩ : ∃ z, xs.getD k 0 = z := ⟨_, rfl⟩
        obtain ⟨y, hy⟩ : ∃ y, ys.getD k 0 = y := ⟨_, rfl⟩
        have cz := hc k hlt
        have cy := hc' k hlt
        rw [hz] at cz
        rw [hy] at cy
        rw [← drewN_cell hd] at cz cy
        have Hz := Lib.hid hz
        have Hy := Lib.hid hy
        clear hz hc hy hc'
        have i0 : (0 : Int) ≤ (k : Int) := by omega
        have i1 : (k : Int) < n := by omega
        by_cases hzy : z = y
        · have hzy' : (z != y) = false := by simpa using hzy
          have Hzy := Lib.hid hzy
          clear hzy
          go_wp2_with fail
          go_quiet (fail)
          go_wp2
          go_roundw
          case rel => exact ⟨k + 1, by omega, by go_num, drewN_more hd _, fun j hj => by
            by_cases e : j = k
            · subst e; rw [Hz.out, Hy.out]; exact Hzy.out
            · exact hok.out j (by omega)⟩
          case measure => simp [intOf]; omega
        · have hzy' : (z != y) = true := by simpa using hzy
          have hp : pb (xs = ys) = false := pb_false fun e => hzy (by rw [← Hz.out, ← Hy.out, e])
          have Hp := Lib.hid hp
          clear hzy hp
          go_wp2_with fail
          go_quiet (fail)
          go_wp2
          go_ret
          exact ⟨by rw [Hp.out]; rfl, drewN_more hd _⟩
      · have hp : pb (xs = ys) = true := pb_true (same_of_getD (by rw [H.out, H'.out]) fun j hj => hok.out j (by have := H.out; omega))
        have Hp := Lib.hid hp
        clear hp
        go_wp2
        go_ret
        exact ⟨by rw [Hp.out]; rfl, hd.out⟩
  · have hne : ((n : Int) != (m : Int)) = true := by simp; omega
    have hp : pb (xs = ys) = false := pb_false fun e => hnm' (by rw [← H.out, ← H'.out, e])
    have Hp := Lib.hid hp
    clear hp hnm'
    go_enter Try.func34, Try.ntmps34
    go_wp2
    go_ret
    exact ⟨by rw [Hp.out]; rfl, 0, rfl⟩
/-- k numbers from k0 on -/
def markL (k0 : Int) (n : Nat) : List Int := (List.range n).map fun i : Nat => k0 + (i : Int)
theorem markL_length (k0 : Int) (n : Nat) : (markL k0 n).length = n := by simp [markL]
theorem markL_getD (k0 : Int) (n i : Nat) (h : i < n) : (markL k0 n).getD i 0 = k0 + i := by
  simp [markL, List.getD_eq_getElem?_getD, h]
theorem markL_succ (k0 : Int) (n : Nat) : markL k0 (n + 1) = markL k0 n ++ [k0 + n] := by simp [markL, List.range_succ]
theorem copy_step (xs : List Int) (n k : Nat) (hk : k < n) (hn : xs.length = n) : (xs.take k ++ List.replicate (n - k) 0).set k (xs.getD k 0) = xs.take (k + 1) ++ List.replicate (n - (k + 1)) 0 := by
  have hl : (xs.take k).length = k := by simp; omega
  rw [List.set_append_right _ _ (by omega), hl, Nat.sub_self, List.take_succ_eq_append_getElem (by omega), show n - k = (n - (k + 1)) + 1 by omega, List.replicate_succ, List.set_cons_zero, List.append_assoc]
  simp [List.getD_eq_getElem?_getD, List.getElem?_eq_getElem (l := xs) (i := k) (by omega)]
theorem copy_end (xs : List Int) (n : Nat) (hn : xs.length = n) : xs.take n ++ List.replicate (n - n) 0 = xs := by
  rw [Nat.sub_self, List.take_of_length_le (by omega)]; simp
theorem mark_step (xs : List Int) (k0 : Int) (k : Nat) (hk : k < xs.length) : (markL k0 k ++ xs.drop k).set k (k0 + k) = markL k0 (k + 1) ++ xs.drop (k + 1) := by
  rw [List.set_append_right _ _ (by rw [markL_length]; omega), markL_length, Nat.sub_self, List.drop_eq_getElem_cons hk, List.set_cons_zero, markL_succ, List.append_assoc]
  rfl
theorem made_ints (n : Nat) : (madeCells (Value.int .i64 0).cells (n * 1)).toList = (List.replicate n (0 : Int)).map (Value.int .i64) := by
  rw [Nat.mul_one]
  exact (toList_madeCells_one (.int .i64 0) n).trans (by simp)
set_option maxHeartbeats 1000000 in
theorem toIntS_any (w : World) (ao : Option Addr) (n cap : Nat) (xs : List Int) (h : IntsAt w ao n cap xs) (hn : n ≤ 1000000000) :
    Calls Try.prog 32 #[.slice ao n cap] w (IntsPost w xs) := by
  obtain ⟨i0, hi, hz0, hz1, hz2⟩ := info_parts info_int
  have hl := h.len
  have H := Lib.hid hl
  clear hl
  go_enter Try.func32, Try.ntmps32
  go_wp2_with (at_make; refine wpList_make_full w rfl _ _ 23 rfl w.heap.size 3 i0 (.int .i64 0) 1 Try.underlying23 hi hz0 hz1 .i64 .i64 n n n rfl rfl rfl rfl (by rw [hz2]; omega) (by unfold maxLen; omega) (Nat.le_refl _) ?_; intro w1 o1 g1)
  rw [made_ints] at o1
  have o2 : OwnI w.heap.size w1 (.slice (some ⟨w.heap.size, 0, none⟩) n n) (xs.take 0 ++ List.replicate (n - 0) 0) := by
    unfold OwnI Own
    simpa using o1
  have O2 := Lib.hid o2
  have G1 := Lib.hid g1
  clear o1 o2 g1 hi hz0 hz1 hz2
  go_loopw [4] (fun i wr => ∃ k : Nat, k ≤ n ∧ i = .int .i64 k ∧ Hid (w.grownBy wr none) ∧ Hid (OwnI w.heap.size wr (.slice (some ⟨w.heap.size, 0, none⟩) n n) (xs.take k ++ List.replicate (n - k) 0))) (fun i _ => n - (intOf i).toNat)
  case atStart => exact ⟨0, Nat.zero_le _, rfl, G1, O2⟩
  case round =>
    clear O2 G1
    obtain ⟨k, hk, rfl, hg, ho⟩ := hrel
    by_cases hlt : k < n
    · have hlen : (xs.take k ++ List.replicate (n - k) (0 : Int)).length = n := by have := H.out; simp; omega
      obtain ⟨b, off, rfl, hb, hc⟩ := IntsAt.addr (RowAt.grown h hg.out) (by omega)
      obtain ⟨g, e1, e2, hBg, hgl, hc2, hf2, hset⟩ := OwnI.at ho.out (by omega)
      clear e2
      obtain ⟨z, hz⟩ : ∃ z, xs.getD k 0 = z := ⟨_, rfl⟩
      have cz := hc k hlt
      rw [hz] at cz
      have hst := hset k z
      rw [← hz, copy_step xs n k hlt H.out, hz] at hst
      have c2 := hc2 k (by omega)
      have f2 := hf2 k
      simp only [Option.some.injEq, Addr.mk.injEq, and_true] at e1
      rw [← e1] at c2 f2 hst
      obtain ⟨y, hy⟩ : ∃ y, (xs.take k ++ List.replicate (n - k) (0 : Int)).getD k 0 = y := ⟨_, rfl⟩
      rw [hy] at c2
      have Hst := Lib.hid hst
      have Gst := Lib.hid (gSet hg.out (p := ⟨w.heap.size, k, none⟩) (Nat.le_refl _) (.int .i64 z))
      clear hst hz hy hc hc2 hf2 hset e1 hlen hgl hBg
      go_wp2
      go_roundw
      case rel => exact ⟨k + 1, by omega, by go_num, Gst, Hst⟩
      case measure => simp [intOf]; omega
    · have hkn : k = n := by omega
      have o3 := ho.out
      rw [hkn, copy_end xs n H.out] at o3
      have O3 := Lib.hid o3
      clear hkn o3
      go_wp2
      go_ret
      exact ints_post O3.out hg.out
def MarkPost (B : Nat) (w : World) (ao : Option Addr) (n cap : Nat) (k0 : Int) (e : Ending) (w' : World) : Prop :=
  e = .returned (.int .i64 (k0 + n)) ∧ w.grownBy w' (Value.ownBlock (.slice ao n cap)) ∧ OwnI B w' (.slice ao n cap) (markL k0 n)
set_option maxHeartbeats 1000000 in
theorem markIntS_any (B : Nat) (w : World) (ao : Option Addr) (n cap : Nat) (xs : List Int) (k0 : Int) (h : OwnI B w (.slice ao n cap) xs) (hl : xs.length = n) (hn : n ≤ 1000000000) (h0 : 0 ≤ k0) (h1 : k0 ≤ 1000000000000) :
    Calls Try.prog 35 #[.slice ao n cap, .int .i64 k0] w (MarkPost B w ao n cap k0) := by
  have H := Lib.hid hl
  have hs : OwnI B w (.slice ao n cap) (markL k0 0 ++ xs.drop 0) := by simpa [markL] using h
  have Hs := Lib.hid hs
  clear hs h hl
  go_enter Try.func35, Try.ntmps35
  go_wp2
  go_loopw [1, 5] (fun q i wr => ∃ k : Nat, k ≤ n ∧ i = .int .i64 k ∧ q = .int .i64 (k0 + k) ∧ Hid (w.grownBy wr (Value.ownBlock (.slice ao n cap))) ∧ Hid (OwnI B wr (.slice ao n cap) (markL k0 k ++ xs.drop k))) (fun _ i _ => n - (intOf i).toNat)
  case atStart => exact ⟨0, Nat.zero_le _, rfl, by simp, grown_refl _ _, Hs⟩
  case round =>
    clear Hs
    obtain ⟨k, hk, rfl, rfl, hg, ho⟩ := hrel
    by_cases hlt : k < n
    · have hlen : (markL k0 k ++ xs.drop k).length = n := by have := H.out; simp [markL_length]; omega
      obtain ⟨g, e1, e2, hBg, hgl, hc2, hf2, hset⟩ := OwnI.at ho.out (by omega)
      clear e2
      subst e1
      have hst := hset k (k0 + k)
      rw [mark_step xs k0 k (by have := H.out; omega)] at hst
      have c2 := hc2 k (by omega)
      have f2 := hf2 k
      obtain ⟨y, hy⟩ : ∃ y, (markL k0 k ++ xs.drop k).getD k 0 = y := ⟨_, rfl⟩
      rw [hy] at c2
      have Hst := Lib.hid hst
      have gst : w.grownBy (wr.setCell ⟨g, k, none⟩ (.int .i64 (k0 + k))) (Value.ownBlock (.slice (some ⟨g, 0, none⟩) n cap)) := grown_trans hg.out (grown_set wr g k _)
      have Gst := Lib.hid gst
      clear hst gst hy hc2 hf2 hset hlen hgl hBg
      go_wp2
      go_roundw
      case rel => exact ⟨k + 1, by omega, by go_num, by go_num, Gst, Hst⟩
      case measure => simp [intOf]; omega
    · have hkn : k = n := by omega
      have o3 := ho.out
      have hd : xs.drop k = [] := by rw [List.drop_eq_nil_iff]; have := H.out; omega
      rw [hd, List.append_nil] at o3
      subst hkn
      have O3 := Lib.hid o3
      clear o3 hd
      go_wp2
      go_ret
      exact ⟨rfl, hg.out, O3.out⟩
set_option maxHeartbeats 1000000 in
theorem heldIntS_any (w : World) (ao : Option Addr) (n cap : Nat) (k0 : Int) (h : IntsAt w ao n cap (markL k0 n)) (hn : n ≤ 1000000000) (h0 : 0 ≤ k0) (h1 : k0 ≤ 1000000000000) :
    Calls Try.prog 38 #[.slice ao n cap, .int .i64 k0] w fun e w' => e = .returned (.int .i64 (k0 + n)) ∧ w = w' := by
  go_enter Try.func38, Try.ntmps38
  go_wp2
  go_loop [1, 5] (fun q i => ∃ k : Nat, k ≤ n ∧ i = .int .i64 k ∧ q = .int .i64 (k0 + k)) (fun _ i => n - (intOf i).toNat)
  case atStart => exact ⟨0, Nat.zero_le _, rfl, by simp⟩
  case round =>
    obtain ⟨k, hk, rfl, rfl⟩ := hrel
    by_cases hlt : k < n
    · obtain ⟨b, off, rfl, hb, hc⟩ := h.addr (by omega)
      have cz := hc k hlt
      rw [markL_getD k0 n k hlt] at cz
      clear hc
      go_wp2
      go_round
      case rel => exact ⟨k + 1, by omega, by go_num, by go_num⟩
      case measure => simp [intOf]; omega
    · have hkn : k = n := by omega
      subst hkn
      go_wp2
      go_ret
      exact ⟨rfl, rfl⟩
theorem OwnI.ints {B : Nat} {w : World} {ao : Option Addr} {n cap : Nat} {xs : List Int} (h : OwnI B w (.slice ao n cap) xs) : IntsAt w ao n cap xs ∧ n = xs.length ∧ (∀ a, ao = some a → B ≤ a.block ∧ a.block < w.heap.size) := by
  obtain ⟨ao', cap', e, i, _⟩ := h.shape
  have hb := fun a (ea : ao = some a) => World.ownsRow.lt h a.block (by rw [ea]; rfl)
  simp only [Value.slice.injEq] at e
  obtain ⟨rfl, rfl, rfl⟩ := e
  exact ⟨i, rfl, hb⟩
/-- every block of the slice v lies in [a, b) -/
def BlockIn (v : Value) (a b : Nat) : Prop := ∀ k, v.ownBlock = some k → a ≤ k ∧ k < b
theorem OwnI.blockIn {B : Nat} {w : World} {v : Value} {xs : List Int} (h : OwnI B w v xs) : BlockIn v B w.heap.size := World.ownsRow.lt h
/-- a write to u, whose block lies elsewhere -/
theorem OwnI.other {B M : Nat} {w w' : World} {u v : Value} {xs : List Int} (h : OwnI B w v xs) (g : w.grownBy w' u.ownBlock) (hv : (∀ k, v.ownBlock = some k → k < M) ∧ (∀ k, u.ownBlock = some k → M ≤ k) ∨ (∀ k, v.ownBlock = some k → M ≤ k) ∧ (∀ k, u.ownBlock = some k → k < M)) : OwnI B w' v xs := by
  refine Own.apart h g ?_
  cases hb : v.ownBlock with
  | none => exact .inl rfl
  | some k =>
    refine .inr fun e => ?_
    rcases hv with ⟨a, b⟩ | ⟨a, b⟩
    · have := a k hb; have := b k e.symm; omega
    · have := a k hb; have := b k e.symm; omega
theorem grown_mark {a b c : World} {B : Nat} {v : Value} {xs : List Int} (G : a.grownBy b none) (o : OwnI B b v xs) (g : b.grownBy c v.ownBlock) (hB : a.heap.size ≤ B) : a.grownBy c none := grown_own G o g hB
end Go.Proofs.Ytedpkhboepahgaa
