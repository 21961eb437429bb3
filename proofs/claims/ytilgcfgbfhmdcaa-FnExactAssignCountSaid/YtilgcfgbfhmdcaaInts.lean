/- Functions on slices of ints: clone, searches, comparisons, marks. -/
import Derived.Test.YtilgcfgbfhmdcaaList
import Derived.WalkKit
import Derived.Lib.Hide
import Derived.Deep.QuietTactic
import Derived.BigQuiet
namespace Go.Proofs.Ytilgcfgbfhmdcaa
open Go.RowKit
/-- the Bool of a proposition -/
noncomputable def pb (p : Prop) : Bool := @decide p (Classical.propDecidable p)
theorem pb_true {p : Prop} (h : p) : pb p = true := by unfold pb; simp [h]
theorem pb_false {p : Prop} (h : ¬ p) : pb p = false := by unfold pb; simp [h]
@[simp] theorem pb_True : pb True = true := pb_true trivial
@[simp] theorem pb_False : pb False = false := pb_false id
theorem pb_iff {p : Prop} : pb p = true ↔ p := by unfold pb; simp
theorem pb_not {p : Prop} : pb p = false ↔ ¬ p := by unfold pb; simp
theorem pb_congr {p q : Prop} (h : p ↔ q) : pb p = pb q := by rw [propext h]
/-- what a slice result is: of the call's own, reading as xs -/
def IntsPost (w : World) (xs : List Int) (e : Ending) (w' : World) : Prop :=
  ∃ ao cap, e = .returned (.slice ao xs.length cap) ∧ OwnI w.heap.size w' (.slice ao xs.length cap) xs ∧ w.grownBy w' none
theorem ints_post {w w' : World} {v : Value} {xs : List Int} (h : OwnI w.heap.size w' v xs) (hg : w.grownBy w' none) : IntsPost w xs (.returned v) w' := by
  obtain ⟨ao, cap, rfl, _, _⟩ := h.shape
  exact ⟨ao, cap, rfl, h, hg⟩
theorem make_own0 {w' : World} {e : TypeId} {B : Nat} {v : Value} (h : w'.ownsRow B e 1 v 0 []) : Own e B w' v [] := h
theorem drewN_cell {w w' : World} (h : Hid (∃ m, w' = w.drewN m)) (p : Addr) : w'.cell? p = w.cell? p := by
  obtain ⟨m, rfl⟩ := h.out; rfl
theorem drewN_more {w w' : World} (h : Hid (∃ m, w' = w.drewN m)) (n : Nat) : ∃ m, w'.drewN n = w.drewN m := by
  obtain ⟨m, rfl⟩ := h.out; exact ⟨_, World.drewN_drewN _ _ _⟩
theorem drewN_grown {w w' : World} (h : ∃ m, w' = w.drewN m) (row : Option Nat) : w.grownBy w' row := by
  obtain ⟨m, rfl⟩ := h; exact grown_drewN _ _ _
theorem not_mem_take {xs : List Int} {y : Int} (h : ∀ j, j < xs.length → xs.getD j 0 ≠ y) : ¬ y ∈ xs := by
  intro hm
  obtain ⟨i, hi, e⟩ := List.getElem_of_mem hm
  exact h i hi (by simp [List.getD_eq_getElem?_getD, List.getElem?_eq_getElem hi, e])
theorem mem_getD {xs : List Int} {k : Nat} (h : k < xs.length) : xs.getD k 0 ∈ xs := by
  simp [List.getD_eq_getElem?_getD, List.getElem?_eq_getElem h]
theorem same_of_getD {xs ys : List Int} (hl : xs.length = ys.length) (h : ∀ j, j < xs.length → xs.getD j 0 = ys.getD j 0) : xs = ys := by
  refine List.ext_getElem hl fun i h1 h2 => ?_
  have := h i h1
  simpa [List.getD_eq_getElem?_getD, List.getElem?_eq_getElem h1, List.getElem?_eq_getElem h2] using this
/- a search: 'for i := 0; i < len(l); i++ { if l[i] == n { return true } }; return false' -/
set_option maxHeartbeats 1000000 in
theorem l1Has_any (w : World) (ao : Option Addr) (n cap : Nat) (xs : List Int) (y : Int) (h : IntsAt w ao n cap xs) :
    Calls Try.prog 28 #[.slice ao n cap, .int .i64 y] w fun e w' => e = .returned (.bool (pb (y ∈ xs))) ∧ w = w' := by
  have hl := h.len
  have hm := RowAt.max h
  have hnm := RowAt.le h
  have H := Lib.hid hl
  clear hl
  go_enter Try.func28, Try.ntmps28
  go_wp2
  go_loop [5] (fun i => ∃ k : Nat, k ≤ n ∧ i = .int .i64 k ∧ Hid (∀ j, j < k → xs.getD j 0 ≠ y)) (fun i => n - (intOf i).toNat)
  case atStart => exact ⟨0, Nat.zero_le _, rfl, fun j hj => by omega⟩
  case round =>
    obtain ⟨k, hk, rfl, hok⟩ := hrel
    by_cases hlt : k < n
    · obtain ⟨b, off, rfl, hb, hc⟩ := h.addr (by omega)
      obtain ⟨z, hz⟩ : ∃ z, xs.getD k 0 = z := ⟨_, rfl⟩
      have cz := hc k hlt
      rw [hz] at cz
      have Hz := Lib.hid hz
      clear hz hc
      by_cases hzy : z = y
      · have hp : pb (y ∈ xs) = true := pb_true (by rw [← hzy, ← Hz.out]; exact mem_getD (by have := H.out; omega))
        have Hp := Lib.hid hp
        have hzy' : (z == y) = true := by simpa using hzy
        clear hzy hp
        go_wp2
        go_ret
        exact ⟨by rw [Hp.out]; rfl, rfl⟩
      · have hzy' : (z == y) = false := by simpa using hzy
        have Hzy := Lib.hid hzy
        clear hzy
        go_wp2
        go_round
        case rel => exact ⟨k + 1, by omega, by go_num, fun j hj => by
          by_cases e : j = k
          · subst e; rw [Hz.out]; exact Hzy.out
          · exact hok.out j (by omega)⟩
        case measure => simp [intOf]; omega
    · have hp : pb (y ∈ xs) = false := pb_false (not_mem_take fun j hj => hok.out j (by have := H.out; omega))
      have Hp := Lib.hid hp
      clear hp
      go_wp2
      go_ret
      exact ⟨by rw [Hp.out]; rfl, rfl⟩
/- a comparison of two lists -/
/-- k numbers from k0 on -/
def markL (k0 : Int) (n : Nat) : List Int := (List.range n).map fun i : Nat => k0 + (i : Int)
theorem markL_length (k0 : Int) (n : Nat) : (markL k0 n).length = n := by simp [markL]
theorem markL_getD (k0 : Int) (n i : Nat) (h : i < n) : (markL k0 n).getD i 0 = k0 + i := by
  simp [markL, List.getD_eq_getElem?_getD, h]
theorem markL_succ (k0 : Int) (n : Nat) : markL k0 (n + 1) = markL k0 n ++ [k0 + n] := by simp [markL, List.range_succ]
theorem copy_step (xs : List Int) (n k : Nat) (hk : k < n) (hn : xs.length = n) : (xs.take k ++ List.replicate (n - k) 0).set k (xs.getD k 0) = xs.take (k + 1) ++ List.replicate (n - (k + 1)) 0 := by
  have hl : (xs.take k).length = k := by simp; omega
  rw [List.set_append_right _ _ (by omega), hl, Nat.sub_self, List.take_succ_eq_append_getElem (by omega), show n - k = (n - (k + 1)) + 1 by omega, List.replicate_succ, List.set_cons_zero, List.append_assoc]
  simp [List.getD_eq_getElem?_getD, List.getElem?_eq_getElem (l := xs) (i := k) (by omega)]
theorem copy_end (xs : List Int) (n : Nat) (hn : xs.length = n) : xs.take n ++ List.replicate (n - n) 0 = xs := by
  rw [Nat.sub_self, List.take_of_length_le (by omega)]; simp
theorem mark_step (xs : List Int) (k0 : Int) (k : Nat) (hk : k < xs.length) : (markL k0 k ++ xs.drop k).set k (k0 + k) = markL k0 (k + 1) ++ xs.drop (k + 1) := by
  rw [List.set_append_right _ _ (by rw [markL_length]; omega), markL_length, Nat.sub_self, List.drop_eq_getElem_cons hk, List.set_cons_zero, markL_succ, List.append_assoc]
  rfl
theorem made_ints (n : Nat) : (madeCells (Value.int .i64 0).cells (n * 1)).toList = (List.replicate n (0 : Int)).map (Value.int .i64) := by
  rw [Nat.mul_one]
  exact (toList_madeCells_one (.int .i64 0) n).trans (by simp)
theorem OwnI.ints {B : Nat} {w : World} {ao : Option Addr} {n cap : Nat} {xs : List Int} (h : OwnI B w (.slice ao n cap) xs) : IntsAt w ao n cap xs ∧ n = xs.length ∧ (∀ a, ao = some a → B ≤ a.block ∧ a.block < w.heap.size) := by
  obtain ⟨ao', cap', e, i, _⟩ := h.shape
  have hb := fun a (ea : ao = some a) => World.ownsRow.lt h a.block (by rw [ea]; rfl)
  simp only [Value.slice.injEq] at e
  obtain ⟨rfl, rfl, rfl⟩ := e
  exact ⟨i, rfl, hb⟩
/-- every block of the slice v lies in [a, b) -/
def BlockIn (v : Value) (a b : Nat) : Prop := ∀ k, v.ownBlock = some k → a ≤ k ∧ k < b
theorem OwnI.blockIn {B : Nat} {w : World} {v : Value} {xs : List Int} (h : OwnI B w v xs) : BlockIn v B w.heap.size := World.ownsRow.lt h
/-- a write to u, whose block lies elsewhere -/
theorem OwnI.other {B M : Nat} {w w' : World} {u v : Value} {xs : List Int} (h : OwnI B w v xs) (g : w.grownBy w' u.ownBlock) (hv : (∀ k, v.ownBlock = some k → k < M) ∧ (∀ k, u.ownBlock = some k → M ≤ k) ∨ (∀ k, v.ownBlock = some k → M ≤ k) ∧ (∀ k, u.ownBlock = some k → k < M)) : OwnI B w' v xs := by
  refine Own.apart h g ?_
  cases hb : v.ownBlock with
  | none => exact .inl rfl
  | some k =>
    refine .inr fun e => ?_
    rcases hv with ⟨a, b⟩ | ⟨a, b⟩
    · have := a k hb; have := b k e.symm; omega
    · have := a k hb; have := b k e.symm; omega
theorem grown_mark {a b c : World} {B : Nat} {v : Value} {xs : List Int} (G : a.grownBy b none) (o : OwnI B b v xs) (g : b.grownBy c v.ownBlock) (hB : a.heap.size ≤ B) : a.grownBy c none := grown_own G o g hB
end Go.Proofs.Ytilgcfgbfhmdcaa
