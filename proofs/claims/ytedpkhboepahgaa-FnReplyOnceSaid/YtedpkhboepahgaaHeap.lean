/- Worlds that have grown: no program in sight. -/
import Derived.WalkKit
import Derived.Deep.Draws
namespace Go.Proofs.Ytedpkhboepahgaa
open Go.RowKit
theorem grown_refl (w : World) (row : Option Nat) : w.grownBy w row := ⟨rfl, rfl, rfl, Nat.le_refl _, fun _ _ _ => rfl⟩
theorem grown_trans {a b c : World} {row : Option Nat} (h : a.grownBy b row) (k : b.grownBy c row) : a.grownBy c row :=
  ⟨k.os.trans h.os, k.tape.trans h.tape, k.output.trans h.output, Nat.le_trans h.size k.size, fun i hi hne => (k.block i (Nat.lt_of_lt_of_le hi h.size) hne).trans (h.block i hi hne)⟩
theorem grown_some {a b : World} {row : Option Nat} (h : a.grownBy b none) : a.grownBy b row := ⟨h.os, h.tape, h.output, h.size, fun k hk _ => h.block k hk (by simp)⟩
theorem grown_drewN (w : World) (n : Nat) (row : Option Nat) : w.grownBy (w.drewN n) row := by
  exact ⟨rfl, rfl, rfl, Nat.le_refl _, fun _ _ _ => rfl⟩
theorem grown_set (w : World) (b o : Nat) (v : Value) : w.grownBy (w.setCell ⟨b, o, none⟩ v) (some b) :=
  ⟨rfl, rfl, rfl, by simp [World.setCell], fun k _ hne => Below.heap_setCell _ _ _ _ (fun e => hne (by rw [e]))⟩
theorem heap_setCell_at {w : World} {b o : Nat} {c : Array Value} {e : TypeId} {fr : Nat × Nat} (h : w.heap[b]? = some (.cells c e fr)) (v : Value) : (w.setCell ⟨b, o, none⟩ v).heap[b]? = some (.cells (c.setIfInBounds o v) e fr) := by
  simp [World.setCell, Array.getElem?_modify, h]
theorem grown_alloc (w : World) (o : Obj) (row : Option Nat) : w.grownBy (w.alloc o) row := World.grownBy_alloc w o row
theorem new_cell {w1 w2 : World} {cs : Array Value} {e : TypeId} {rb : Nat} (g : (w1.alloc (.cells cs e)).grownBy w2 (some rb)) (hr : rb < w1.heap.size) (i : Nat) : w2.cell? ⟨w1.heap.size, i, none⟩ = cs[i]? := by
  have h := g.block w1.heap.size (by simp) (by simp; omega)
  rw [heap_alloc_new] at h
  simp [World.cell?, h]
theorem cellN {w w' : World} {cs : Array Value} {e : TypeId} {v : Value} (g : (w.alloc (.cells cs e)).grownBy w' none) (i : Nat) (h : cs[i]? = some v) : w'.cell? ⟨w.heap.size, i, none⟩ = some v := by
  have h' := g.block w.heap.size (by simp) (by simp)
  rw [heap_alloc_new] at h'
  simp [World.cell?, h', h]
theorem sizeN {w w' : World} {o : Obj} {row : Option Nat} (g : (w.alloc o).grownBy w' row) : w.heap.size < w'.heap.size := by
  have := g.size; simp at this; omega
theorem grown_new {a b c : World} {rb : Nat} (h : a.grownBy b none) (k : b.grownBy c (some rb)) (hr : a.heap.size ≤ rb) : a.grownBy c none :=
  ⟨k.os.trans h.os, k.tape.trans h.tape, k.output.trans h.output, Nat.le_trans h.size k.size, fun i hi _ => (k.block i (Nat.lt_of_lt_of_le hi h.size) (fun e => by simp at e; omega)).trans (h.block i hi (by simp))⟩
theorem below_of {w w' : World} (h : w.grownBy w' none) : Below w.heap.size w w' := ⟨h.os, h.tape, h.output, h.size, fun k hk => h.block k hk (by simp)⟩
/-- steps on the right end of a growth -/
theorem gAlloc {a b : World} {row : Option Nat} (h : a.grownBy b row) (o : Obj) : a.grownBy (b.alloc o) row := grown_trans h (grown_alloc _ _ _)
theorem gDrew {a b : World} {row : Option Nat} (h : a.grownBy b row) : a.grownBy b.drew row := ⟨h.os, h.tape, h.output, h.size, h.block⟩
theorem gDrewN {a b : World} {row : Option Nat} (h : a.grownBy b row) (n : Nat) : a.grownBy (b.drewN n) row := ⟨h.os, h.tape, h.output, h.size, h.block⟩
theorem gSet {a b : World} {row : Option Nat} (h : a.grownBy b row) {p : Addr} (hp : a.heap.size ≤ p.block) (v : Value) : a.grownBy (b.setCell p v) row :=
  ⟨h.os, h.tape, h.output, by simpa [World.setCell] using h.size, fun k hk hne => (Below.heap_setCell _ _ _ _ (by omega)).trans (h.block k hk hne)⟩
theorem gRow {a b c : World} {row row' : Option Nat} (h : a.grownBy b row) (k : b.grownBy c row') (hr : ∀ i, i < a.heap.size → some i = row' → some i = row) : a.grownBy c row :=
  ⟨k.os.trans h.os, k.tape.trans h.tape, k.output.trans h.output, Nat.le_trans h.size k.size, fun i hi hne => (k.block i (Nat.lt_of_lt_of_le hi h.size) (fun e => hne (hr i hi e))).trans (h.block i hi hne)⟩
theorem blkN {w w' : World} {o : Obj} {row : Option Nat} (g : (w.alloc o).grownBy w' row) (h : some w.heap.size ≠ row) : w'.heap[w.heap.size]? = some o :=
  (g.block w.heap.size (by simp) h).trans (heap_alloc_new w o)
theorem blkK {w w' : World} {b : Nat} {o : Obj} {row : Option Nat} (g : w.grownBy w' row) (hb : w.heap[b]? = some o) (h : some b ≠ row) : w'.heap[b]? = some o :=
  (g.block b (Array.getElem?_eq_some_iff.1 hb).1 h).trans hb
theorem blkA {w : World} {b : Nat} {o o' : Obj} (hb : w.heap[b]? = some o) : (w.alloc o').heap[b]? = some o := blkK (grown_alloc w o' none) hb (by simp)
theorem blkS {w : World} {b : Nat} {o : Obj} (hb : w.heap[b]? = some o) {p : Addr} (hp : b ≠ p.block) (v : Value) : (w.setCell p v).heap[b]? = some o := (Below.heap_setCell _ _ _ _ hp).trans hb
theorem blkC {w : World} {b : Nat} {cs : Array Value} {e : TypeId} {fr : Nat × Nat} (hb : w.heap[b]? = some (.cells cs e fr)) (i : Nat) {v : Value} (h : cs[i]? = some v) : w.cell? ⟨b, i, none⟩ = some v := by simp [World.cell?, hb, h]
theorem blkF {w : World} {b : Nat} {cs : Array Value} {e : TypeId} (hb : w.heap[b]? = some (.cells cs e (0, 0))) (i : Nat) : w.frozen? ⟨b, i, none⟩ = false := by simp [World.frozen?, hb]
theorem blkL {w : World} {b : Nat} {o : Obj} (hb : w.heap[b]? = some o) : b < w.heap.size := (Array.getElem?_eq_some_iff.1 hb).1
end Go.Proofs.Ytedpkhboepahgaa
