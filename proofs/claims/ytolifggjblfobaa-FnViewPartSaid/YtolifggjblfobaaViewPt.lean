/- The walk of FnViewPart. -/
import Derived.Test.YtolifggjblfobaaViewW
import Derived.WalkKit
import Derived.Lib.Hide
import Derived.Deep.QuietTactic
import Derived.BigQuiet
import Derived.Deep.RegionHeld3
namespace Go.Proofs.Ytolifggjblfobaa
open Go.RowKit
set_option maxHeartbeats 4000000 in
theorem fnViewPart_walk (ao : Option Addr) (n cap : Nat) (bo : Option Addr) (m cap' : Nat) (w : World) (h1 : CodeAt w ao n cap) (h2 : CodeAt w bo m cap') :
    Calls Try.prog 5 #[.slice ao n cap, .slice bo m cap'] w fun e w' => e = .returned (.bool true) ∧ w.grownBy w' none := by
  have hm := h2.max
  have hmc := h2.le
  by_cases a : (1048576 : Int) < n
  · go_enter Try.func5, Try.ntmps5
    go_wp2
    go_ret
    exact ⟨rfl, grown_refl _ _⟩
  by_cases b : (1048576 : Int) < m
  · go_enter Try.func5, Try.ntmps5
    go_wp2
    go_ret
    exact ⟨rfl, grown_refl _ _⟩
  · go_enter Try.func5, Try.ntmps5
    go_wp2_with fail
    refine (drawViewOf_any _ _ _ _ h1).mono ?_
    rintro e w1 ⟨fs, a1, c1, rfl, l1, sm, t1, g1⟩
    obtain ⟨N, hN⟩ : ∃ N, fs.length = N := ⟨_, rfl⟩
    rw [hN] at t1 l1 ⊢
    go_wp2_with fail
    refine (viewOf_any _ _ _ _ fs t1 sm.wf).mono ?_
    rintro e w2 ⟨v2, rfl, o2, g2⟩
    obtain ⟨a2, c2, rfl, t2⟩ := OwnF.shape o2
    go_wp2_with fail
    refine (viewOfS_any _ _ _ _ fs (t1.grown g2)).mono ?_
    rintro e w3 ⟨v3, rfl, o3, g3⟩
    obtain ⟨a3, c3, rfl, t3⟩ := OwnF.shape o3
    obtain ⟨K, hK⟩ : ∃ K, (viewL fs).length = K := ⟨_, rfl⟩
    rw [hK] at t2 t3 ⊢
    have HN := Lib.hid hN
    have HSM := Lib.hid sm
    have T1 := Lib.hid ((t1.grown g2).grown g3)
    have T2 := Lib.hid (t2.grown g3)
    have T3 := Lib.hid t3
    have G3 := Lib.hid (grown_trans g1 (grown_trans g2 g3))
    have HK := Lib.hid hK
    clear o2 o3 t1 t2 t3 g1 g2 g3 hK hN sm
    by_cases hK0 : K = 0
    case pos =>
      subst hK0
      go_wp2_with fail
      refine (sameFlows_any _ _ _ _ (viewL fs) _ _ _ (viewL fs) T2.out T3.out).mono ?_
      rintro e w4 ⟨rfl, d, rfl⟩
      rw [pb_true (p := viewL fs = viewL fs) rfl]
      go_wp2_with fail
      refine (sameFlows_any _ _ _ _ (viewL fs) _ _ _ (viewL fs) (T2.out.grown (grown_drewN _ d _)) (T3.out.grown (grown_drewN _ d _))).mono ?_
      rintro e w5 ⟨rfl, d2, rfl⟩
      rw [pb_true (p := viewL fs = viewL fs) rfl]
      go_wp2_with fail
      go_ret
      exact ⟨rfl, gDrewN G3.out _⟩
    case neg =>
      have hP : FlowsP fs := by
        refine Classical.byContradiction fun e => hK0 ?_
        rw [← HK.out, viewL_no e]; rfl
      have HP := Lib.hid hP
      have hKN : K = N := by rw [← HK.out, viewL_yes hP, viewR_len, HN.out]
      have VG := Lib.hid (show ∀ i, i < N → (viewL fs).getD i f0 = ((fs.getD i f0).1, (fs.getD i f0).2.1, ((num fs i : Nat) : Int)) from fun i hi => by
        rw [viewL_yes hP, HN.out]; exact viewR_getD fs N i hi)
      have hN16 : N ≤ 16 := by have := hP.1; have := HN.out; omega
      have k0 : ((K : Int) == 0) = false := by simp; omega
      have hNK := hKN.symm
      subst hNK
      clear hP hKN
      go_wp2_with fail
      refine (sameFlows_any _ _ _ _ (viewL fs) _ _ _ (viewL fs) T2.out T3.out).mono ?_
      rintro e w4 ⟨rfl, d, hd⟩
      rw [pb_true (p := viewL fs = viewL fs) rfl]
      have g4 : w3.grownBy w4 none := by rw [hd]; exact grown_drewN _ _ _
      have U1 := Lib.hid (T1.out.grown g4)
      have U2 := Lib.hid (T2.out.grown g4)
      have G4 := Lib.hid (grown_trans G3.out g4)
      clear hd g4 T1 T2 T3 G3
      obtain ⟨q, hq⟩ : ∃ q, m % (N + 1) = q := ⟨_, rfl⟩
      have hqN : q ≤ N := by have := Nat.mod_lt m (show 0 < N + 1 by omega); omega
      have d0 : (N : Int) + 1 ≠ 0 := by omega
      have d1 : ((N : Int) + 1 == 0) = false := by simp; omega
      have d2 : (m : Int).tmod ((N : Int) + 1) = (q : Int) := by rw [← hq]; rfl
      have d3 : (m : Int) % ((N : Int) + 1) = (q : Int) := by rw [← hq]; rfl
      have V1 := Lib.hid (U1.out.pre q hqN)
      have V2 := Lib.hid (U2.out.pre q hqN)
      have PT := Lib.hid (view_part HP.out q (by rw [HN.out]; exact hqN))
      have WF := Lib.hid (show Wf (fs.take q) from fun i hi => by
        rw [List.length_take, HN.out] at hi
        rw [List.getD_eq_getElem?_getD, List.getElem?_take, if_pos (by omega), ← List.getD_eq_getElem?_getD]
        exact HSM.out.wf i (by rw [HN.out]; omega))
      have hc1 := U1.out.le
      have hc2 := U2.out.le
      have hx1 := U1.out.max
      have hx2 := U2.out.max
      have q0 : (0 : Int) ≤ (q : Int) := by omega
      obtain ⟨b1, off1, rfl, -, -, -, -⟩ := U1.out.at 0 (by omega)
      obtain ⟨b2, off2, rfl, -, -, -, -⟩ := U2.out.at 0 (by omega)
      have qc1 : (q : Int) ≤ (c1 : Int) := by omega
      have qc2 : (q : Int) ≤ (c2 : Int) := by omega
      have qn1 : q ≤ c1 := by omega
      have qn2 : q ≤ c2 := by omega
      clear hq
      have LT := Lib.hid (V2.out.len)
      go_wp2_with fail
      go_region_held3 (fun _ => True) (trivial)
        (first
          | (go_at_call 19; refine (viewOf_any _ _ _ _ (fs.take q) (FlowsAt.grown V1.out (gDrew (grown_refl _ _))) WF.out).mono ?_; rintro e w5 ⟨v5, rfl, o5, g5⟩; rw [PT.out] at o5; obtain ⟨a5, c5, rfl, t5⟩ := OwnF.shape o5; rw [LT.out] at t5 ⊢)
          | (go_at_call 21; refine (sameFlows_any _ _ _ _ _ _ _ _ _ t5 (FlowsAt.grown (FlowsAt.grown V2.out (gDrew (grown_refl _ _))) g5)).mono ?_; rintro e w6 ⟨rfl, hd6⟩; rw [pb_true (p := (viewL fs).take q = (viewL fs).take q) rfl]))
      all_goals
        have G6 := Lib.hid (grown_trans (grown_trans (gDrew G4.out) g5) (drewN_grown hd6 none))
        clear hd6 g5 o5 t5
        go_wp2
        go_ret
        exact ⟨rfl, G6.out⟩
end Go.Proofs.Ytolifggjblfobaa
