/- Drawn: spent serial numbers, a key, a ticket. -/
import Derived.Test.YtppkbmlbggokkaaDoorDrawS
import Derived.Test.YtppkbmlbggokkaaDoorDrawT
import Derived.Test.YtppkbmlbggokkaaDoorInts
import Derived.WalkKit
import Derived.Lib.Hide
import Derived.Deep.QuietTactic
import Derived.BigQuiet
import Derived.BigRegion
namespace Go.Proofs.YtppkbmlbggokkaaDoor
open Go.RowKit
def DrawDPost (w : World) (e : Ending) (w' : World) : Prop :=
  ∃ xs : List Int, ∃ ao cap, ∃ p s g : Int, e = .returned (.tuple #[.slice ao xs.length cap, .int .i64 p, .agg #[.int .i64 s, .int .i64 g]]) ∧ xs.length ≤ 21 ∧ IntsAt w' ao xs.length cap xs ∧ w.grownBy w' none
set_option maxHeartbeats 2000000 in
theorem drawTicketSpend_any (w : World) (ao : Option Addr) (n cap : Nat) (hco : CodeAt w ao n cap) :
    Calls Tryd.prog 10 #[.slice ao n cap] w (DrawDPost w) := by
  have G0 := Lib.hid (grown_alloc w (.cells #[.int .i64 0, .int .i64 0] 25) none)
  have C0 := Lib.hid (hco.grown G0.out)
  have D0 := Lib.hid (show (w.alloc (.cells #[.int .i64 0, .int .i64 0] 25)).heap[w.heap.size]? = some (.cells #[.int .i64 0, .int .i64 0] 25) from heap_alloc_new w _)
  have hz0 : w.heap.size < (w.alloc (.cells #[.int .i64 0, .int .i64 0] 25)).heap.size := by simp
  go_enter Tryd.func10, Tryd.ntmps10
  go_wp2_with fail
  refine (l6Open_any _ _ _ _ C0.out).mono ?_
  rintro e w1 ⟨rb, rfl, z1, g1, r1⟩
  have D1 := Lib.hid (blkK g1 D0.out (by simp))
  have hrb := r1.lt
  go_wp2_with fail
  refine (l92Spent_any rb 0 _ r1 (by omega)).mono ?_
  rintro e w2 ⟨xs, a2, c2, l2, rfl, o2, g2, r2⟩
  have D2 := Lib.hid (blkK g2 D1.out (by simp; omega))
  go_wp2_with fail
  refine (l92Ticket_any rb _ _ r2 (by omega)).mono ?_
  rintro e w3 ⟨p, s, g, _, _, _, rfl, g3, r3⟩
  have D3 := Lib.hid (blkK g3 D2.out (by simp; omega))
  have O3 := Lib.hid (OwnI.row o2 g3 (fun k e => by simp at e; omega))
  have G3 := Lib.hid (grown_new (grown_trans G0.out g1) (grown_trans g2 g3) (by omega))
  have L3 := Lib.hid l2
  have hz3 := r3.lt
  clear r1 r2 r3 o2 g1 g2 g3 l2
  have DA := Lib.hid (show (w3.alloc (.cells #[.int .i64 s, .int .i64 g] 25)).heap[w.heap.size]? = some (.cells #[.int .i64 0, .int .i64 0] 25) from blkA D3.out)
  have f0 := blkF DA.out 0
  have f1 := blkF DA.out 1
  have d0 := blkC DA.out 0 rfl
  have d1 := blkC DA.out 1 rfl
  have GA := Lib.hid (gAlloc G3.out (.cells #[.int .i64 s, .int .i64 g] 25))
  have gs := grown_trans (grown_set (w3.alloc (.cells #[.int .i64 s, .int .i64 g] 25)) w.heap.size 0 (.int .i64 s)) (grown_set ((w3.alloc (.cells #[.int .i64 s, .int .i64 g] 25)).setCell ⟨w.heap.size, 0, none⟩ (.int .i64 s)) w.heap.size 1 (.int .i64 g))
  have GZ := Lib.hid (gDrew (grown_new GA.out gs (Nat.le_refl _)))
  have IZ := Lib.hid (((OwnI.grown O3.out (grown_alloc w3 (.cells #[.int .i64 s, .int .i64 g] 25) none)).row gs (fun k e => by simp at e; omega)).grown (gDrew (grown_refl _ none)))
  clear gs
  go_wp2_with fail
  go_region
  go_wp2
  refine bodyPost_ret (v := .tuple #[.slice a2 xs.length c2, .int .i64 p, .agg #[.int .i64 s, .int .i64 g]]) ?_ rfl ⟨xs, a2, c2, p, s, g, rfl, L3.out, IZ.out.ints.1, GZ.out⟩
  simp only [results, Tryd.results10]
  go_simp
end Go.Proofs.YtppkbmlbggokkaaDoor
