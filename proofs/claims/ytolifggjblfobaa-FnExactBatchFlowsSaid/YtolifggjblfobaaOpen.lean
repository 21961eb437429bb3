/- The small drawers: l6Open, l91Good, l91Is, l91Number, l92Serial. -/
import Derived.Test.YtolifggjblfobaaRd
import Derived.WalkKit
import Derived.Lib.Hide
import Derived.Deep.QuietTactic
import Derived.BigQuiet
namespace Go.Proofs.Ytolifggjblfobaa
open Go.RowKit
theorem rdr_new (w : World) (ao : Option Addr) (n cap : Nat) (hb : BytesAt w ao n w.heap.size) (h2 : n ≤ 2000) :
    Rdr (w.alloc (.cells #[.slice ao n cap, .int .i64 0] 62)) w.heap.size 0 :=
  ⟨ao, n, cap, 0, Nat.le_refl _, h2, heap_alloc_new w _, hb.grown (grown_alloc w _ none) (by simp)⟩
theorem BytesAt.less {w : World} {ao : Option Addr} {n m B : Nat} (h : BytesAt w ao n B) (hm : m ≤ n) : BytesAt w ao m B := by
  rcases h with h | ⟨b, off, e, hb, h⟩
  · exact .inl (by omega)
  · exact .inr ⟨b, off, e, hb, fun i hi => h i (by omega)⟩
/-- a code came in: n bytes -/
structure CodeAt (w : World) (ao : Option Addr) (n cap : Nat) : Prop where
  le : n ≤ cap
  max : cap ≤ 9223372036854775807
  bytes : BytesAt w ao n w.heap.size
theorem CodeAt.grown {w w' : World} {ao : Option Addr} {n cap : Nat} (h : CodeAt w ao n cap) (hg : w.grownBy w' none) : CodeAt w' ao n cap :=
  ⟨h.le, h.max, (h.bytes.grown hg (by simp)).up hg.size⟩
def OpenPost (w : World) (e : Ending) (w' : World) : Prop := ∃ rb, e = .returned (.pointer (some ⟨rb, 0, none⟩)) ∧ w.heap.size ≤ rb ∧ w.grownBy w' none ∧ Rdr w' rb 0
theorem l6Open_any (w : World) (ao : Option Addr) (n cap : Nat) (hco : CodeAt w ao n cap) :
    Calls Try.prog 38 #[.slice ao n cap] w (OpenPost w) := by
  obtain ⟨hn, hm, hb⟩ := hco
  by_cases h : n ≤ 2000
  · go_enter Try.func38, Try.ntmps38
    go_wp2
    go_ret
    exact ⟨_, rfl, Nat.le_refl _, grown_alloc w _ _, rdr_new w _ _ _ hb h⟩
  · have hcap : (2000:Int) ≤ cap := by omega
    go_enter Try.func38, Try.ntmps38
    go_wp2
    go_ret
    exact ⟨_, rfl, Nat.le_refl _, grown_alloc w _ _, rdr_new w _ _ _ (hb.less (by omega)) (by omega)⟩
theorem Rdr.lt {w : World} {rb c : Nat} (h : Rdr w rb c) : rb < w.heap.size := by
  obtain ⟨ao, n, cap, p, h1, h2, h3, h4⟩ := h
  exact (Array.getElem?_eq_some_iff.1 h3).1
/-- a drawn number of some kind -/
def IntPost (P : Int → Prop) (rb c : Nat) (w : World) (e : Ending) (w' : World) : Prop := ∃ v : Int, e = .returned (.int .i64 v) ∧ P v ∧ w.grownBy w' (some rb) ∧ Rdr w' rb c
def isGood (v : Int) : Prop := 1 ≤ v ∧ v ≤ 987
def isNear (v : Int) : Prop := -1 ≤ v ∧ v ≤ 997
def isSerial (v : Int) : Prop := -1 ≤ v ∧ v ≤ 991
end Go.Proofs.Ytolifggjblfobaa
