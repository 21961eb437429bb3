/- Tables: what is written in a range of blocks; rows taken out and put back. -/
import Derived.Test.YtkacopgfnkoifaaLrows
import Derived.WalkKit
import Derived.Lib.Hide
import Derived.Deep.QuietTactic
import Derived.BigQuiet
namespace Go.Proofs.Ytkacopgfnkoifaa
open Go.RowKit
/-- w' is w with new blocks, and with writes to old blocks of [B, M) alone -/
structure Tch (B M : Nat) (w w' : World) : Prop where
  os : w'.os = w.os
  tape : w'.tape = w.tape
  output : w'.output = w.output
  size : w.heap.size ≤ w'.heap.size
  block : ∀ k, k < w.heap.size → (k < B ∨ M ≤ k) → w'.heap[k]? = w.heap[k]?
theorem Tch.refl (B M : Nat) (w : World) : Tch B M w w := ⟨rfl, rfl, rfl, Nat.le_refl _, fun _ _ _ => rfl⟩
theorem Tch.trans {B M : Nat} {a b c : World} (h : Tch B M a b) (k : Tch B M b c) : Tch B M a c :=
  ⟨k.os.trans h.os, k.tape.trans h.tape, k.output.trans h.output, Nat.le_trans h.size k.size, fun i hi hb => (k.block i (Nat.lt_of_lt_of_le hi h.size) hb).trans (h.block i hi hb)⟩
theorem Tch.of_grown {B M : Nat} {a b : World} {row : Option Nat} (h : a.grownBy b row) (hr : ∀ k, row = some k → B ≤ k ∧ k < M) : Tch B M a b :=
  ⟨h.os, h.tape, h.output, h.size, fun k hk hb => h.block k hk fun e => by have := hr k e.symm; omega⟩
theorem Tch.old {B M : Nat} {a b : World} (h : a.grownBy b none) : Tch B M a b := Tch.of_grown h (by simp)
/-- what lies from the base on is nothing old -/
theorem Tch.grown {B M : Nat} {a b c : World} (h : a.grownBy b none) (k : Tch B M b c) (hB : a.heap.size ≤ B) : a.grownBy c none :=
  ⟨k.os.trans h.os, k.tape.trans h.tape, k.output.trans h.output, Nat.le_trans h.size k.size, fun i hi _ => (k.block i (Nat.lt_of_lt_of_le hi h.size) (by omega)).trans (h.block i hi (by simp))⟩
theorem Own.tch {e : TypeId} {B B' M' : Nat} {w w' : World} {v : Value} {cs : List Value} (h : Own e B w v cs) (k : Tch B' M' w w') (hv : ∀ b, v.ownBlock = some b → b < B' ∨ M' ≤ b) : Own e B w' v cs := by
  have hb := h.bound
  refine ⟨h.1, ?_⟩
  rcases h.2 with hn | ⟨g, cap, cur, rfl, hg, hheap, r⟩
  · exact .inl hn
  · exact .inr ⟨g, cap, cur, rfl, hg, (k.block g (hb g rfl).2 (hv g rfl)).trans hheap, r⟩
theorem OwnTab.tch {α : Type} {e2 e : TypeId} {f : α → Value} {B M B' M' : Nat} {w w' : World} {v : Value} {rows : List (List α)} (h : OwnTab e2 e f B M w v rows) (k : Tch B' M' w w') (hv : M ≤ B' ∨ M' ≤ B) : OwnTab e2 e f B M w' v rows := by
  obtain ⟨vs, h1, h2, h3, h4, h5⟩ := h
  refine ⟨vs, h1.tch k fun b hb => by have := h2 b hb; have := (h1.bound b hb).1; omega, h2, h3, fun i r hi => ?_, h5⟩
  obtain ⟨u, hu, ho, hb⟩ := h4 i r hi
  exact ⟨u, hu, ho.tch k fun b hb' => by have := hb b hb'; have := (ho.bound b hb').1; omega, hb⟩
/-- row i of an owned table, and the table again after the row has been written -/
theorem OwnTab.rowOut {α : Type} {e2 e : TypeId} {f : α → Value} {B M : Nat} {w : World} {ao : Option Addr} {n cap : Nat} {rows : List (List α)} (h : OwnTab e2 e f B M w (.slice ao n cap) rows) (hne : e2 ≠ e) (i : Nat) (hi : i < rows.length) :
    ∃ g ro rc, ao = some ⟨g, 0, none⟩ ∧ w.cell? ⟨g, i, none⟩ = some (.slice ro (rows.getD i []).length rc) ∧ Own e B w (.slice ro (rows.getD i []).length rc) ((rows.getD i []).map f) ∧ (∀ k, (Value.slice ro (rows.getD i []).length rc).ownBlock = some k → B ≤ k ∧ k < M) ∧
      ∀ w' r', w.grownBy w' (Value.slice ro (rows.getD i []).length rc).ownBlock → Own e B w' (.slice ro (rows.getD i []).length rc) (r'.map f) → OwnTab e2 e f B M w' (.slice ao n cap) (rows.set i r') := by
  obtain ⟨vs, h1, h2, h3, h4, h5⟩ := h
  obtain ⟨g, rfl, hn, hB, hgl, hc, hf, hset⟩ := h1.at (by omega)
  have hr : rows[i]? = some (rows.getD i []) := by simp [List.getD_eq_getElem?_getD, List.getElem?_eq_getElem (l := rows) (i := i) (by omega)]
  obtain ⟨u, hu, ho, hb⟩ := h4 i _ hr
  obtain ⟨uo, uc, rfl, hrow, _⟩ := ho.shape
  simp only [List.length_map] at ho hu hrow hb
  refine ⟨g, uo, uc, rfl, hc i _ hu, ho, fun k hk => ⟨(ho.bound k hk).1, hb k hk⟩, fun w' r' hg ho' => ⟨vs, h1.apart hg (own_types h1 ho hne), h2, by simp [h3], fun j r hj => ?_, h5⟩⟩
  by_cases e : j = i
  · subst e
    rw [List.getElem?_set_self (by omega)] at hj
    simp only [Option.some.injEq] at hj
    subst hj
    exact ⟨_, hu, ho', hb⟩
  · rw [List.getElem?_set_ne (Ne.symm e)] at hj
    obtain ⟨z, hz, hoz, hbz⟩ := h4 j r hj
    exact ⟨z, hz, hoz.apart hg (h5 j i _ _ e hz hu), hbz⟩
theorem OwnR.rows {B M : Nat} {w : World} {ao : Option Addr} {n cap : Nat} {rows : List (List Int)} (h : OwnR B M w (.slice ao n cap) rows) : RowsAt w ao n cap rows := by
  obtain ⟨a, c, e, hr⟩ := OwnR.shape h
  simp only [Value.slice.injEq] at e
  obtain ⟨rfl, rfl, rfl⟩ := e
  exact hr
/-- the cells before row i -/
def offR (rows : List (List Int)) : Nat → Nat
  | 0 => 0
  | i + 1 => offR rows i + (rows.getD i []).length
/-- small in all -/
def TotP (n : Nat) (rows : List (List Int)) : Prop := ∀ i, i ≤ n → offR rows i ≤ 1048576
theorem offR_le {rows : List (List Int)} {L : Nat} (h : ∀ i, (rows.getD i []).length ≤ L) (i : Nat) : offR rows i ≤ i * L := by
  induction i with
  | zero => simp [offR]
  | succ i ih =>
    have := h i
    rw [offR, Nat.succ_mul]; omega
theorem TotP.row {n : Nat} {rows : List (List Int)} (h : TotP n rows) (i : Nat) (hi : i < n) : (rows.getD i []).length ≤ 1048576 := by
  have := h (i + 1) (by omega)
  rw [offR] at this; omega
def MarkedR (k0 : Int) (rows ys : List (List Int)) : Prop := ys.length = rows.length ∧ ∀ i, i < rows.length → ys.getD i [] = markL (k0 + offR rows i) (rows.getD i []).length
end Go.Proofs.Ytkacopgfnkoifaa
