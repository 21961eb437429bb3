/- sameBlock, and the head of the laws about blocks. -/
import Derived.Test.YtedpkhboepahgaaBlkI
import Derived.Test.YtedpkhboepahgaaDrawRM
import Derived.Test.YtedpkhboepahgaaSameI
import Derived.WalkKit
import Derived.Lib.Hide
import Derived.Deep.QuietTactic
import Derived.BigQuiet
namespace Go.Proofs.Ytedpkhboepahgaa
open Go.RowKit
theorem drawn2 {P : Program} {f : FuncId} {args : Array Value} {w : World} {n : Nat} {v v' : Value}
    (h : Calls P f args (w.drewN n) fun e w' => e = .returned v ∧ ∃ d, w' = (w.drewN n).drewN d) (hv : v = v') : Calls P f args (w.drewN n) fun e w'' => e = .returned v' ∧ ∃ m, w'' = w.drewN m :=
  h.mono fun _ _ ⟨he, d, hd⟩ => ⟨hv ▸ he, by rw [hd]; exact drewN_more ⟨n, rfl⟩ d⟩
theorem pack_one {z : Int} (h : 0 ≤ z ∧ z ≤ 990) : PackP [z] :=
  ⟨⟨by simp, fun j hj => by
    have : j = 0 := by simp at hj; omega
    subst this
    exact h⟩, by simp⟩
theorem sameBlock_any (f e t : Int) (w : World) (ha : Option Addr) (n hc : Nat) (hb : Option Addr) (hd : Nat) (H : List Int) (h : IntsAt w ha n hc H) (h' : IntsAt w hb n hd H) :
    Calls Try.prog 14 #[.agg #[.int .i64 f, .int .i64 e, .slice ha n hc, .int .i64 t], .agg #[.int .i64 f, .int .i64 e, .slice hb n hd, .int .i64 t]] w fun q w' => q = .returned (.bool true) ∧ w.grownBy w' none := by
  have G := Lib.hid (show w.grownBy ((w.alloc (.cells #[.int .i64 f, .int .i64 e, .slice ha n hc, .int .i64 t] 27)).alloc (.cells #[.int .i64 f, .int .i64 e, .slice hb n hd, .int .i64 t] 27)) none from gAlloc (grown_alloc w _ none) _)
  have I := Lib.hid (h.grown G.out)
  have J := Lib.hid (h'.grown G.out)
  have D1 := Lib.hid (show ((w.alloc (.cells #[.int .i64 f, .int .i64 e, .slice ha n hc, .int .i64 t] 27)).alloc (.cells #[.int .i64 f, .int .i64 e, .slice hb n hd, .int .i64 t] 27)).heap[w.heap.size]? = some (.cells #[.int .i64 f, .int .i64 e, .slice ha n hc, .int .i64 t] 27) from blkA (heap_alloc_new w _))
  have D2 := Lib.hid (show ((w.alloc (.cells #[.int .i64 f, .int .i64 e, .slice ha n hc, .int .i64 t] 27)).alloc (.cells #[.int .i64 f, .int .i64 e, .slice hb n hd, .int .i64 t] 27)).heap[w.heap.size + 1]? = some (.cells #[.int .i64 f, .int .i64 e, .slice hb n hd, .int .i64 t] 27) from heap_next (by simp))
  have d0 := blkC D1.out 0 rfl
  have d1 := blkC D1.out 1 rfl
  have d2 := blkC D1.out 2 rfl
  have d3 := blkC D1.out 3 rfl
  have e0 := blkC D2.out 0 rfl
  have e1 := blkC D2.out 1 rfl
  have e2 := blkC D2.out 2 rfl
  have e3 := blkC D2.out 3 rfl
  clear h h'
  go_enter Try.func14, Try.ntmps14
  go_wp2_with fail
  refine (sameInts_any _ _ _ _ H _ _ _ H I.out J.out).mono ?_
  rintro e w7 ⟨rfl, g7⟩
  rw [pb_true (p := H = H) rfl]
  replace g7 := drewN_grown g7 none
  have GG := Lib.hid (grown_trans G.out g7)
  clear g7
  go_wp2_with fail
  go_ret
  exact ⟨rfl, GG.out⟩
end Go.Proofs.Ytedpkhboepahgaa
