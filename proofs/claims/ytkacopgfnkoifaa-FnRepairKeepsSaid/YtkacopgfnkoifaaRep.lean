/- PiecesRepair of the program. -/
import Derived.Test.YtkacopgfnkoifaaPar
import Derived.WalkKit
import Derived.Lib.Hide
import Derived.Deep.QuietTactic
import Derived.BigQuiet
namespace Go.Proofs.Ytkacopgfnkoifaa
open Go.RowKit
/-- what PiecesRepair returns: a table of the call's own, and whether it is one -/
def RepPost (w : World) (rows : List (List Int)) (par : List Int) (e : Ending) (w' : World) : Prop :=
  ∃ v, e = .returned (.tuple #[v, .bool (pb (RepP rows par))]) ∧ OwnR w.heap.size w'.heap.size w' v (repL rows par) ∧ w.grownBy w' none
theorem rep_no {w w' : World} {rows : List (List Int)} {par : List Int} {v : Value} (h : ¬ RepP rows par) (ho : OwnR w.heap.size w'.heap.size w' v []) (hg : w.grownBy w' none) : RepPost w rows par (.returned (.tuple #[v, .bool false])) w' :=
  ⟨v, by rw [pb_false h], by rw [repL_no h]; exact ho, hg⟩
theorem rep_yes {w w' : World} {rows : List (List Int)} {par : List Int} {v : Value} (h : RepP rows par) (ho : OwnR w.heap.size w'.heap.size w' v ((List.range rows.length).map (repRow rows par))) (hg : w.grownBy w' none) : RepPost w rows par (.returned (.tuple #[v, .bool true])) w' :=
  ⟨v, by rw [pb_true h], by rw [repL_yes h]; exact ho, hg⟩
theorem reps_step (rows : List (List Int)) (par : List Int) (k : Nat) : (List.range (k + 1)).map (repRow rows par) = (List.range k).map (repRow rows par) ++ [repRow rows par k] := by simp [List.range_succ]
theorem reps_len (rows : List (List Int)) (par : List Int) (k : Nat) : ((List.range k).map (repRow rows par)).length = k := by simp
set_option maxHeartbeats 2000000 in
theorem piecesRepair_any (w : World) (ao : Option Addr) (n cap : Nat) (rows : List (List Int)) (po : Option Addr) (m pc : Nat) (par : List Int) (h : RowsAt w ao n cap rows) (hp : IntsAt w po m pc par) :
    Calls Try.prog 28 #[.slice ao n cap, .slice po m pc] w (RepPost w rows par) := by
  have H := Lib.hid h.len
  have Hm := Lib.hid hp.len
  go_enter Try.func28, Try.ntmps28
  go_wp2_with fail
  refine (missing_any _ _ _ _ _ h).mono ?_
  rintro e w1 ⟨⟨hP, rfl⟩ | ⟨hP, rfl⟩, rfl⟩
  · obtain ⟨E, hE⟩ : ∃ E, emptN rows rows.length = E := ⟨_, rfl⟩
    obtain ⟨A, hA⟩ : ∃ A, emptA rows rows.length = A := ⟨_, rfl⟩
    rw [hE, hA]
    have HE := Lib.hid hE
    have HA := Lib.hid hA
    have HP := Lib.hid hP
    clear hE hA hP
    by_cases hE1 : 1 < E
    · have R : Hid (¬ RepP rows par) := Lib.hid fun e => by have := e.2.1; have := HE.out; omega
      go_wp2_with fail
      go_ret2
      exact rep_no R.out (ownR_none _ _ _) (grown_refl _ _)
    · by_cases hpar : OneP par
      case neg =>
        have R : Hid (¬ RepP rows par) := Lib.hid fun e => hpar e.2.2
        have P := Lib.hid (piece_pb_no hpar)
        clear hpar
        go_wp2_with (go_at_call 48; refine (listOf_any _ _ _ _ par 3 hp).mono ?_; rintro e w' ⟨rfl, rfl⟩; rw [P.out])
        go_ret2
        exact rep_no R.out (ownR_none _ _ _) (grown_refl _ _)
      case pos =>
        have R : Hid (RepP rows par) := Lib.hid ⟨HP.out, by rw [HE.out]; omega, hpar⟩
        have P := Lib.hid (piece_pb hpar)
        have HW := Lib.hid (emptA_one rows.length (by rw [HE.out]; omega))
        have hn5 : n ≤ 5 := by have := HP.out.1.2; have := H.out; omega
        obtain rfl : m = 3 := by rw [← Hm.out]; exact hpar.1
        clear hpar
        have O0 := Lib.hid (OwnR.now (ownR_nil w.heap.size w (Nat.le_refl _)))
        have G0 := Lib.hid (grown_alloc w (.cells #[] 22) none)
        have HROW := Lib.hid (show ∀ i, i < n → (rows.getD i []).length = 0 ∨ OneP (rows.getD i []) from fun i hi => HP.out.2 i (by rw [H.out]; exact hi))
        go_wp2_with (go_at_call 48; refine (listOf_any _ _ _ _ par 3 hp).mono ?_; rintro e w' ⟨rfl, rfl⟩; rw [P.out])
        go_loopw [9, 10, 11, 32] (fun v u x q wr => ∃ k : Nat, k ≤ n ∧ q = .int .i64 k ∧ Hid (OwnR w.heap.size wr.heap.size wr v ((List.range k).map (repRow rows par))) ∧ Hid (w.grownBy wr none)) (fun _ _ _ q _ => n - (intOf q).toNat)
        case atStart => exact ⟨0, by omega, rfl, O0, G0⟩
        case round =>
          clear O0 G0
          obtain ⟨k, hk, rfl, ho, hg⟩ := hrel
          obtain ⟨wo, rfl⟩ : ∃ wo : World, wo = wr := ⟨_, rfl⟩
          have zo := hg.out.size
          by_cases hlt : k < n
          · obtain ⟨b, off, ro, rc, rfl, cc, hrow⟩ := (h.grown hg.out).at k hlt
            have hw := HW.out k (by rw [H.out]; exact hlt)
            rw [HA.out] at hw
            have hcase := HROW.out k hlt
            have HRR : Hid (repRow rows par k = if (rows.getD k []).length = 0 then combR (-1) par rows rows.length else rows.getD k []) := Lib.hid rfl
            obtain ⟨row, hz⟩ : ∃ z, rows.getD k [] = z := ⟨_, rfl⟩
            obtain ⟨l, hll⟩ : ∃ l, row.length = l := ⟨_, rfl⟩
            rw [hz, hll] at cc hrow hw
            rw [hz] at hcase
            rw [hz] at HRR
            have hl3 : l ≤ 3 := by
              rcases hcase with e | e
              · omega
              · have := e.1; omega
            have HROWK := Lib.hid hrow
            have HL := Lib.hid hll
            clear hz hll hrow hcase
            by_cases hl0 : l = 0
            · have RR := Lib.hid (show repRow rows par k = combR (-1) par rows n by rw [HRR.out, if_pos (by rw [HL.out]; exact hl0), H.out])
              have hkA : ((k : Int) == A) = true := by have := hw.1 hl0; simp; omega
              have HPW := Lib.hid (hp.grown hg.out)
              have HRW := Lib.hid (RowsAt.grown h hg.out)
              have LEN := Lib.hid (show (combR (-1) par rows n).length = 3 by rw [combR_len]; exact R.out.2.2.1)
              clear hl0 hw HRR HL HROWK
              go_wp2_with fail
              refine (combined_m1 _ _ _ par _ _ _ rows HPW.out R.out.2.2 HRW.out HROW.out).mono ?_
              rintro e w5 ⟨a5, c5, rfl, o5, g5⟩
              rw [LEN.out] at o5 ⊢
              have X5 := Lib.hid (OwnI.ints o5).1
              have T5 := Lib.hid (ho.out.grown g5)
              have G5 := Lib.hid (grown_trans hg.out g5)
              have Z5 := Lib.hid g5.size
              clear o5 g5 ho hg HPW HRW
              go_wp2_with fail
              refine (clone_any _ _ _ _ (combR (-1) par rows n) X5.out (by omega)).mono ?_
              rintro e w6 ⟨a6, c6, rfl, o6, g6⟩
              rw [LEN.out] at o6 ⊢
              have X6 := Lib.hid (Own.lower o6 Z5.out)
              have T6 := Lib.hid (T5.out.grown g6)
              have G6 := Lib.hid (grown_trans G5.out g6)
              have Z6 := Lib.hid (Nat.le_trans Z5.out g6.size)
              clear o6 g6 T5 G5 Z5 X5
              have Y := Lib.hid (one_lst w6 (.slice a6 3 c6))
              have O2 := Lib.hid (OwnI.grown X6.out (grown_alloc w6 (.cells #[.slice a6 3 c6] 22) none))
              have T2 := Lib.hid (OwnR.grown T6.out (grown_alloc w6 (.cells #[.slice a6 3 c6] 22) none))
              have G2 := Lib.hid (gAlloc G6.out (.cells #[.slice a6 3 c6] 22))
              have HB := Lib.hid (show wo.heap.size ≤ (w6.alloc (.cells #[.slice a6 3 c6] 22)).heap.size by have := Z6.out; simp; omega)
              clear X6 T6 G6 Z6
              go_wp2_with (at_builtin; refine app_rows rfl (.tmp 43) (.tmp 46) rfl T2.out O2.out Y.out rfl rfl zo HB.out (by rw [reps_len]; omega) ?_; intro v9 w9 o9 g9; refine Hid.out ?_)
              show wpList _ _ _ _ _ _
              obtain ⟨vs9, hh9⟩ := OwnTab.spine T2.out
              have gg9 := grown_own G2.out hh9 g9 (Nat.le_refl _)
              have O9 := Lib.hid o9
              have G9 := Lib.hid gg9
              clear gg9 hh9 vs9 o9 g9 T2 O2 G2 Y HB
              go_wp2
              go_roundw
              case rel => exact ⟨k + 1, by omega, by go_num, by rw [reps_step, RR.out]; exact O9, G9⟩
              case measure => simp [intOf]; omega
            · have RR := Lib.hid (show repRow rows par k = row by rw [HRR.out, if_neg (by rw [HL.out]; exact hl0)])
              have hkA : ((k : Int) == A) = false := by
                have : ¬ ((k : Int) = A) := fun e => hl0 (hw.2 e)
                simpa using this
              clear hl0 hw HRR
              go_wp2_with fail
              refine (clone_any _ _ _ _ row HROWK.out (by omega)).mono ?_
              rintro e w6 ⟨a6, c6, rfl, o6, g6⟩
              rw [HL.out] at o6 ⊢
              have X6 := Lib.hid o6
              have T6 := Lib.hid (ho.out.grown g6)
              have G6 := Lib.hid (grown_trans hg.out g6)
              have Z6 := Lib.hid g6.size
              clear o6 g6 ho hg HROWK HL
              have Y := Lib.hid (one_lst w6 (.slice a6 l c6))
              have O2 := Lib.hid (OwnI.grown X6.out (grown_alloc w6 (.cells #[.slice a6 l c6] 22) none))
              have T2 := Lib.hid (OwnR.grown T6.out (grown_alloc w6 (.cells #[.slice a6 l c6] 22) none))
              have G2 := Lib.hid (gAlloc G6.out (.cells #[.slice a6 l c6] 22))
              have HB := Lib.hid (show wo.heap.size ≤ (w6.alloc (.cells #[.slice a6 l c6] 22)).heap.size by have := Z6.out; simp; omega)
              clear X6 T6 G6 Z6
              go_wp2_with (at_builtin; refine app_rows rfl (.tmp 43) (.tmp 46) rfl T2.out O2.out Y.out rfl rfl zo HB.out (by rw [reps_len]; omega) ?_; intro v9 w9 o9 g9; refine Hid.out ?_)
              show wpList _ _ _ _ _ _
              obtain ⟨vs9, hh9⟩ := OwnTab.spine T2.out
              have gg9 := grown_own G2.out hh9 g9 (Nat.le_refl _)
              have O9 := Lib.hid o9
              have G9 := Lib.hid gg9
              clear gg9 hh9 vs9 o9 g9 T2 O2 G2 Y HB
              go_wp2
              go_roundw
              case rel => exact ⟨k + 1, by omega, by go_num, by rw [reps_step, RR.out]; exact O9, G9⟩
              case measure => simp [intOf]; omega
          · have hkn : k = n := by omega
            subst hkn
            have O9 := Lib.hid (show OwnR w.heap.size wo.heap.size wo u9 ((List.range rows.length).map (repRow rows par)) by rw [H.out]; exact ho.out)
            go_wp2
            go_ret2
            exact rep_yes R.out O9.out hg.out
  · have R : Hid (¬ RepP rows par) := Lib.hid fun e => hP e.1
    clear hP
    go_wp2_with fail
    go_ret2
    exact rep_no R.out (ownR_none _ _ _) (grown_refl _ _)
end Go.Proofs.Ytkacopgfnkoifaa
