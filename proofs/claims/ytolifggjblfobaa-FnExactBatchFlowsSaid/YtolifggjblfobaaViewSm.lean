/- ViewSame of both. -/
import Derived.Test.YtolifggjblfobaaViewI
import Derived.Test.YtolifggjblfobaaFlowE
import Derived.WalkKit
import Derived.Lib.Hide
import Derived.Deep.QuietTactic
import Derived.BigQuiet
import Derived.Deep.RegionHeld3
namespace Go.Proofs.Ytolifggjblfobaa
open Go.RowKit
/-- two views are the same -/
def SameP (fs gs : List F3) : Prop := FlowsP fs ∧ FlowsP gs ∧ viewL fs = viewL gs
def SamePost (w : World) (fs gs : List F3) (e : Ending) (w' : World) : Prop := e = .returned (.bool (pb (SameP fs gs))) ∧ w.grownBy w' none
set_option maxHeartbeats 2000000 in
theorem viewSame_any (w : World) (ao : Option Addr) (n cap : Nat) (fs : List F3) (bo : Option Addr) (m cap' : Nat) (gs : List F3) (h : FlowsAt w ao n cap fs) (h' : FlowsAt w bo m cap' gs) (hwf : Wf fs) (hwf' : Wf gs) :
    Calls Try.prog 22 #[.slice ao n cap, .slice bo m cap'] w (SamePost w fs gs) := by
  go_enter Try.func22, Try.ntmps22
  go_wp2_with fail
  refine (flowsValid_any _ _ _ _ fs h).mono ?_
  rintro e w1 ⟨rfl, g1⟩
  by_cases hP : FlowsP fs
  case neg =>
    have R := Lib.hid (show pb (SameP fs gs) = false from pb_false fun e => hP e.1)
    rw [pb_false hP]
    clear hP
    go_wp2_with fail
    go_ret
    exact ⟨by rw [R.out]; rfl, g1⟩
  rw [pb_true hP]
  go_wp2_with fail
  refine (flowsValid_any _ _ _ _ gs (h'.grown g1)).mono ?_
  rintro e w2 ⟨rfl, g2⟩
  have G2 := Lib.hid (grown_trans g1 g2)
  clear g1 g2
  by_cases hQ : FlowsP gs
  case neg =>
    have R := Lib.hid (show pb (SameP fs gs) = false from pb_false fun e => hQ e.2.1)
    rw [pb_false hQ]
    clear hP hQ
    go_wp2_with fail
    go_ret
    exact ⟨by rw [R.out]; rfl, G2.out⟩
  rw [pb_true hQ]
  have R := Lib.hid (show pb (SameP fs gs) = pb (viewL fs = viewL gs) from pb_congr ⟨fun e => e.2.2, fun e => ⟨hP, hQ, e⟩⟩)
  clear hP hQ
  go_wp2_with fail
  refine (viewOf_any _ _ _ _ fs (h.grown G2.out) hwf).mono ?_
  rintro e w3 ⟨v3, rfl, o3, g3⟩
  obtain ⟨a3, c3, rfl, t3⟩ := OwnF.shape o3
  have T3 := Lib.hid t3
  have G3 := Lib.hid (grown_trans G2.out g3)
  clear o3 t3 g3
  go_wp2_with fail
  refine (viewOf_any _ _ _ _ gs (h'.grown G3.out) hwf').mono ?_
  rintro e w4 ⟨v4, rfl, o4, g4⟩
  obtain ⟨a4, c4, rfl, t4⟩ := OwnF.shape o4
  have T4 := Lib.hid t4
  have T5 := Lib.hid (T3.out.grown g4)
  have G4 := Lib.hid (grown_trans G3.out g4)
  clear o4 t4 g4
  go_wp2_with fail
  refine (equalFlows_any _ _ _ _ (viewL fs) _ _ _ (viewL gs) T5.out T4.out).mono ?_
  rintro e w5 ⟨rfl, d, rfl⟩
  rw [← R.out]
  go_wp2_with fail
  go_ret
  exact ⟨rfl, gDrewN G4.out d⟩
set_option maxHeartbeats 4000000 in
theorem viewSameS_any (w : World) (ao : Option Addr) (n cap : Nat) (fs : List F3) (bo : Option Addr) (m cap' : Nat) (gs : List F3) (h : FlowsAt w ao n cap fs) (h' : FlowsAt w bo m cap' gs) :
    Calls Try.prog 24 #[.slice ao n cap, .slice bo m cap'] w (SamePost w fs gs) := by
  have H := Lib.hid h.len
  have H' := Lib.hid h'.len
  go_enter Try.func24, Try.ntmps24
  go_wp2_with fail
  refine (l32Flows_any _ _ _ _ fs h).mono ?_
  rintro e w1 ⟨rfl, rfl⟩
  by_cases hP : FlowsP fs
  case neg =>
    have R := Lib.hid (show pb (SameP fs gs) = false from pb_false fun e => hP e.1)
    rw [pb_false hP]
    clear hP
    go_wp2_with fail
    go_ret
    exact ⟨by rw [R.out]; rfl, grown_refl _ _⟩
  rw [pb_true hP]
  go_wp2_with fail
  refine (l32Flows_any _ _ _ _ gs h').mono ?_
  rintro e w2 ⟨rfl, rfl⟩
  by_cases hQ : FlowsP gs
  case neg =>
    have R := Lib.hid (show pb (SameP fs gs) = false from pb_false fun e => hQ e.2.1)
    rw [pb_false hQ]
    clear hP hQ
    go_wp2_with fail
    go_ret
    exact ⟨by rw [R.out]; rfl, grown_refl _ _⟩
  rw [pb_true hQ]
  have VF := Lib.hid (show viewL fs = viewR fs n by rw [viewL_yes hP, H.out])
  have VG := Lib.hid (show viewL gs = viewR gs m by rw [viewL_yes hQ, H'.out])
  have R := Lib.hid (show pb (SameP fs gs) = pb (viewR fs n = viewR gs m) from pb_congr ⟨fun e => by rw [← VF.out, ← VG.out]; exact e.2.2, fun e => ⟨hP, hQ, by rw [VF.out, VG.out]; exact e⟩⟩)
  have hn16 : n ≤ 16 := by have := hP.1; have := H.out; omega
  have hm16 : m ≤ 16 := by have := hQ.1; have := H'.out; omega
  clear hP hQ
  by_cases hnm : n = m
  case neg =>
    have hne : ((n : Int) != (m : Int)) = true := by simp; omega
    have R2 := Lib.hid (show pb (SameP fs gs) = false by rw [R.out]; exact pb_false fun e => hnm (by have := congrArg List.length e; rw [viewR_len, viewR_len] at this; exact this))
    clear hnm
    go_wp2_with fail
    go_ret
    exact ⟨by rw [R2.out]; rfl, grown_refl _ _⟩
  subst hnm
  go_wp2_with fail
  refine (l32View_any _ _ _ _ fs h (by omega)).mono ?_
  rintro e w3 ⟨v3, rfl, o3, g3⟩
  obtain ⟨a3, c3, rfl, t3⟩ := OwnF.shape o3
  rw [viewR_len] at t3 ⊢
  have T3 := Lib.hid t3
  have G3 := Lib.hid g3
  clear o3 t3 g3
  go_wp2_with fail
  refine (l32View_any _ _ _ _ gs (h'.grown G3.out) (by omega)).mono ?_
  rintro e w4 ⟨v4, rfl, o4, g4⟩
  obtain ⟨a4, c4, rfl, t4⟩ := OwnF.shape o4
  rw [viewR_len] at t4 ⊢
  have T4 := Lib.hid t4
  have T5 := Lib.hid (T3.out.grown g4)
  have G4 := Lib.hid (grown_trans G3.out g4)
  obtain ⟨xs, hxs⟩ : ∃ xs, viewR fs n = xs := ⟨_, rfl⟩
  obtain ⟨ys, hys⟩ : ∃ ys, viewR gs n = ys := ⟨_, rfl⟩
  rw [hxs] at T5 R
  rw [hys] at T4 R
  clear o4 t4 g4 hxs hys
  go_wp2_with fail
  go_loopw [7] (fun i wr => ∃ k : Nat, k ≤ n ∧ i = .int .i64 k ∧ Hid (∃ d, wr = w4.drewN d) ∧ Hid (∀ j, j < k → xs.getD j f0 = ys.getD j f0)) (fun i _ => n - (intOf i).toNat)
  case atStart => exact ⟨0, Nat.zero_le _, rfl, Lib.hid ⟨0, rfl⟩, Lib.hid fun j hj => by omega⟩
  case round =>
    obtain ⟨k, hk, rfl, hd, hok⟩ := hrel
    have gr := drewN_grown hd.out none
    by_cases hlt : k < n
    · obtain ⟨b, off, rfl, -, c0, c1, c2⟩ := (T5.out.grown gr).at k hlt
      obtain ⟨b', off', rfl, -, d0, d1, d2⟩ := (T4.out.grown gr).at k hlt
      obtain ⟨f, hf⟩ : ∃ f, xs.getD k f0 = f := ⟨_, rfl⟩
      obtain ⟨g, hg⟩ : ∃ g, ys.getD k f0 = g := ⟨_, rfl⟩
      rw [hf] at c0 c1 c2
      rw [hg] at d0 d1 d2
      have Hf := Lib.hid hf
      have Hg := Lib.hid hg
      have GG := Lib.hid gr
      clear hf hg gr
      obtain ⟨x, y, z⟩ := f
      obtain ⟨x', y', z'⟩ := g
      simp only at c0 c1 c2 d0 d1 d2
      have i0 : (0 : Int) ≤ (k : Int) := by omega
      have i1 : (k : Int) < n := by omega
      by_cases hzy : (x, y, z) = (x', y', z')
      · obtain ⟨rfl, rfl, rfl⟩ : x = x' ∧ y = y' ∧ z = z' := by simpa using hzy
        have NX : Hid (∀ j, j < k + 1 → xs.getD j f0 = ys.getD j f0) := Lib.hid fun j hj => by
          by_cases e : j = k
          · subst e; rw [Hf.out, Hg.out]
          · exact hok.out j (by omega)
        clear hzy hok
        go_wp2_with fail
        go_quiet (fail)
        go_wp2
        go_roundw
        case rel => exact ⟨k + 1, by omega, by go_num, drewN_more hd _, NX⟩
        case measure => simp [intOf]; omega
      · have Hp := Lib.hid (show pb (SameP fs gs) = false by rw [R.out]; exact pb_false fun e => hzy (by rw [← Hf.out, ← Hg.out, e]))
        have GD : Hid (∀ d, w.grownBy (wr.drewN d) none) := Lib.hid fun d => gDrewN (grown_trans G4.out GG.out) d
        clear hok
        by_cases ex : x = x'
        · subst ex
          by_cases ey : y = y'
          · subst ey
            have ez : (z == z') = false := by
              have : ¬ z = z' := fun e => hzy (by rw [e])
              simpa using this
            clear hzy
            go_wp2_with fail
            go_quiet (fail)
            go_wp2
            go_ret
            exact ⟨by rw [Hp.out]; rfl, GD.out _⟩
          · have ey' : (y == y') = false := by simpa using ey
            clear hzy ey
            go_wp2_with fail
            go_quiet (fail)
            go_wp2
            go_ret
            exact ⟨by rw [Hp.out]; rfl, GD.out _⟩
        · have ex' : (x == x') = false := by simpa using ex
          clear hzy ex
          go_wp2_with fail
          go_quiet (fail)
          go_wp2
          go_ret
          exact ⟨by rw [Hp.out]; rfl, GD.out _⟩
    · have hp := Lib.hid (show pb (SameP fs gs) = true by rw [R.out]; exact pb_true (flows_of_getD (by rw [T5.out.len, T4.out.len]) fun j hj => hok.out j (by rw [T5.out.len] at hj; omega)))
      have GG := Lib.hid (grown_trans G4.out gr)
      clear hok gr
      go_wp2
      go_ret
      exact ⟨by rw [hp.out]; rfl, GG.out⟩
end Go.Proofs.Ytolifggjblfobaa
