/- The program's TicketSpend. -/
import Derived.Test.YtppkbmlbggokkaaDoorSpendI
import Derived.WalkKit
import Derived.Lib.Hide
import Derived.Deep.QuietTactic
import Derived.BigQuiet
namespace Go.Proofs.YtppkbmlbggokkaaDoor
open Go.RowKit
def TSpend (w : World) (xs : List Int) (p s g : Int) (e : Ending) (w' : World) : Prop :=
  ∃ ao cap, e = .returned (.tuple #[.slice ao (spL xs p s g).length cap, .bool (pb (SpendP xs p s g))]) ∧ OwnI w.heap.size w' (.slice ao (spL xs p s g).length cap) (spL xs p s g) ∧ w.grownBy w' none
theorem tspend_bad {w w' : World} {xs : List Int} {p s g : Int} {v : Value} (h : ¬ SpentP xs) (ho : OwnI w.heap.size w' v []) (hg : w.grownBy w' none) : TSpend w xs p s g (.returned (.tuple #[v, .bool false])) w' := by
  obtain ⟨ao, cap, rfl, _, _⟩ := ho.shape
  exact ⟨ao, cap, by rw [spL_bad h, pb_false fun e => h e.1], by rw [spL_bad h]; exact ho, hg⟩
set_option maxHeartbeats 2000000 in
theorem ticketSpend_any (w : World) (ao : Option Addr) (n cap : Nat) (xs : List Int) (p s g : Int) (h : IntsAt w ao n cap xs) (he : RefAt w) :
    Calls Tryd.prog 11 #[.slice ao n cap, .int .i64 p, .agg #[.int .i64 s, .int .i64 g]] w (TSpend w xs p s g) := by
  have HA := Lib.hid h
  have G0 := Lib.hid (grown_alloc w (.cells #[.int .i64 s, .int .i64 g] 25) none)
  have A1 := Lib.hid (HA.out.grown G0.out)
  have E1 := Lib.hid (he.grown G0.out)
  have D1 := Lib.hid (show (w.alloc (.cells #[.int .i64 s, .int .i64 g] 25)).heap[w.heap.size]? = some (.cells #[.int .i64 s, .int .i64 g] 25) from heap_alloc_new w _)
  have cs := blkC D1.out 0 rfl
  have cg := blkC D1.out 1 rfl
  clear h he
  go_enter Tryd.func11, Tryd.ntmps11
  go_wp2_with fail
  refine (isSpent_any _ _ _ _ xs A1.out).mono ?_
  rintro e w1 ⟨rfl, rfl⟩
  by_cases hs : SpentP xs
  case neg =>
    rw [pb_false hs]
    have NS := Lib.hid hs
    clear hs
    go_wp2_with fail
    go_ret2
    exact tspend_bad NS.out ⟨rfl, .inl ⟨rfl, rfl⟩⟩ G0.out
  rw [pb_true hs]
  have HS := Lib.hid hs
  clear hs
  go_wp2_with fail
  refine (spend_any _ _ _ _ xs p s g A1.out HS.out E1.out).mono ?_
  rintro e w2 ⟨a2, c2, v, rfl, o2, g2, hv⟩
  obtain ⟨b, hb⟩ := E1.out
  have EB := g2.cell hb (by simp)
  have O2 := Lib.hid (Own.lower o2 G0.out.size)
  have G2 := Lib.hid (grown_trans G0.out g2)
  rcases hv with ⟨gp, rfl⟩ | ⟨ng, hv⟩
  · have PB := Lib.hid (show pb (SpendP xs p s g) = true from pb_true ⟨HS.out, gp⟩)
    clear o2 g2 gp hb cs cg
    go_wp2_with fail
    refine (is_nil b _).mono ?_
    rintro e w3 ⟨rfl, rfl⟩
    go_wp2_with fail
    go_ret2
    exact ⟨a2, c2, by rw [PB.out]; rfl, O2.out, G2.out⟩
  · have PB := Lib.hid (show pb (SpendP xs p s g) = false from pb_false fun e => ng e.2)
    rw [hb] at hv
    simp only [Option.some.injEq] at hv
    subst hv
    clear o2 g2 ng hb cs cg
    go_wp2_with fail
    refine (is_same b _).mono ?_
    rintro e w3 ⟨rfl, rfl⟩
    go_wp2_with fail
    go_ret2
    exact ⟨a2, c2, by rw [PB.out]; rfl, O2.out, G2.out⟩
end Go.Proofs.YtppkbmlbggokkaaDoor
