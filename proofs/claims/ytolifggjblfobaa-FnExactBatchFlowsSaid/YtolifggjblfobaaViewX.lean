/- The walks of FnViewTwice and FnViewRename. -/
import Derived.Test.YtolifggjblfobaaViewW
import Derived.Test.YtolifggjblfobaaViewSm
import Derived.WalkKit
import Derived.Lib.Hide
import Derived.Deep.QuietTactic
import Derived.BigQuiet
namespace Go.Proofs.Ytolifggjblfobaa
open Go.RowKit
theorem view_wf {fs : List F3} : Wf (viewL fs) := by
  by_cases h : FlowsP fs
  · rw [viewL_yes h]
    intro i hi
    rw [viewR_len] at hi
    have h16 := h.1
    have := num_lt fs i
    rw [viewR_getD fs _ i hi]
    show ((num fs i : Nat) : Int) ≤ _
    omega
  · rw [viewL_no h]; intro i hi; simp at hi
theorem view_own {fs : List F3} (h : FlowsP fs) : SameP (viewL fs) fs := ⟨by rw [viewL_yes h]; exact view_valid h, h, view_twice h⟩
set_option maxHeartbeats 2000000 in
theorem fnViewTwice_walk (ao : Option Addr) (n cap : Nat) (w : World) (h1 : CodeAt w ao n cap) :
    Calls Try.prog 7 #[.slice ao n cap] w fun e w' => e = .returned (.bool true) ∧ w.grownBy w' none := by
  by_cases a : (1048576 : Int) < n
  · go_enter Try.func7, Try.ntmps7
    go_wp2
    go_ret
    exact ⟨rfl, grown_refl _ _⟩
  · go_enter Try.func7, Try.ntmps7
    go_wp2_with fail
    refine (drawViewOf_any _ _ _ _ h1).mono ?_
    rintro e w1 ⟨fs, a1, c1, rfl, l1, sm, t1, g1⟩
    obtain ⟨N, hN⟩ : ∃ N, fs.length = N := ⟨_, rfl⟩
    rw [hN] at t1 l1 ⊢
    go_wp2_with fail
    refine (viewOf_any _ _ _ _ fs t1 sm.wf).mono ?_
    rintro e w2 ⟨v2, rfl, o2, g2⟩
    obtain ⟨a2, c2, rfl, t2⟩ := OwnF.shape o2
    go_wp2_with fail
    refine (viewOfS_any _ _ _ _ fs (t1.grown g2)).mono ?_
    rintro e w3 ⟨v3, rfl, o3, g3⟩
    obtain ⟨a3, c3, rfl, t3⟩ := OwnF.shape o3
    obtain ⟨K, hK⟩ : ∃ K, (viewL fs).length = K := ⟨_, rfl⟩
    rw [hK] at t2 t3 ⊢
    have HN := Lib.hid hN
    have HSM := Lib.hid sm
    have T1 := Lib.hid ((t1.grown g2).grown g3)
    have T2 := Lib.hid (t2.grown g3)
    have T3 := Lib.hid t3
    have G3 := Lib.hid (grown_trans g1 (grown_trans g2 g3))
    have HK := Lib.hid hK
    clear o2 o3 t1 t2 t3 g1 g2 g3 hK hN sm
    by_cases hK0 : K = 0
    case pos =>
      subst hK0
      go_wp2_with fail
      refine (sameFlows_any _ _ _ _ (viewL fs) _ _ _ (viewL fs) T2.out T3.out).mono ?_
      rintro e w4 ⟨rfl, d, rfl⟩
      rw [pb_true (p := viewL fs = viewL fs) rfl]
      go_wp2_with fail
      refine (sameFlows_any _ _ _ _ (viewL fs) _ _ _ (viewL fs) (T2.out.grown (grown_drewN _ d _)) (T3.out.grown (grown_drewN _ d _))).mono ?_
      rintro e w5 ⟨rfl, d2, rfl⟩
      rw [pb_true (p := viewL fs = viewL fs) rfl]
      go_wp2_with fail
      go_ret
      exact ⟨rfl, gDrewN G3.out _⟩
    case neg =>
      have hP : FlowsP fs := by
        refine Classical.byContradiction fun e => hK0 ?_
        rw [← HK.out, viewL_no e]; rfl
      have HP := Lib.hid hP
      have hKN : K = N := by rw [← HK.out, viewL_yes hP, viewR_len, HN.out]
      have VG := Lib.hid (show ∀ i, i < N → (viewL fs).getD i f0 = ((fs.getD i f0).1, (fs.getD i f0).2.1, ((num fs i : Nat) : Int)) from fun i hi => by
        rw [viewL_yes hP, HN.out]; exact viewR_getD fs N i hi)
      have hN16 : N ≤ 16 := by have := hP.1; have := HN.out; omega
      have k0 : ((K : Int) == 0) = false := by simp; omega
      have hNK := hKN.symm
      subst hNK
      clear hP hKN
      go_wp2_with fail
      refine (sameFlows_any _ _ _ _ (viewL fs) _ _ _ (viewL fs) T2.out T3.out).mono ?_
      rintro e w4 ⟨rfl, d, hd⟩
      rw [pb_true (p := viewL fs = viewL fs) rfl]
      have g4 : w3.grownBy w4 none := by rw [hd]; exact grown_drewN _ _ _
      have U1 := Lib.hid (T1.out.grown g4)
      have U2 := Lib.hid (T2.out.grown g4)
      have G4 := Lib.hid (grown_trans G3.out g4)
      clear hd g4 T1 T2 T3 G3
      have TW := Lib.hid (view_twice HP.out)
      have OW := Lib.hid (view_own HP.out)
      go_wp2_with fail
      refine (viewOf_any _ _ _ _ (viewL fs) U2.out view_wf).mono ?_
      rintro e w5 ⟨v5, rfl, o5, g5⟩
      rw [TW.out] at o5
      obtain ⟨a5, c5, rfl, t5⟩ := OwnF.shape o5
      rw [HK.out] at t5 ⊢
      have T5 := Lib.hid t5
      have V1 := Lib.hid (U1.out.grown g5)
      have V2 := Lib.hid (U2.out.grown g5)
      have G5 := Lib.hid (grown_trans G4.out g5)
      clear o5 t5 g5
      go_wp2_with fail
      refine (sameFlows_any _ _ _ _ (viewL fs) _ _ _ (viewL fs) T5.out V2.out).mono ?_
      rintro e w6 ⟨rfl, d, hd⟩
      rw [pb_true (p := viewL fs = viewL fs) rfl]
      have g6 : w5.grownBy w6 none := by rw [hd]; exact grown_drewN _ _ _
      have X1 := Lib.hid (V1.out.grown g6)
      have X2 := Lib.hid (V2.out.grown g6)
      have G6 := Lib.hid (grown_trans G5.out g6)
      clear hd g6
      go_wp2_with fail
      refine (viewSame_any _ _ _ _ (viewL fs) _ _ _ fs X2.out X1.out view_wf HSM.out.wf).mono ?_
      rintro e w7 ⟨rfl, g7⟩
      rw [pb_true OW.out]
      go_wp2_with fail
      go_ret
      exact ⟨rfl, grown_trans G6.out g7⟩
/-- other names -/
def shF (c : Int) (f : F3) : F3 := (f.1, f.2.1, f.2.2 + 1 + c)
theorem sh_getD (c : Int) (fs : List F3) (i : Nat) (h : i < fs.length) : (fs.map (shF c)).getD i f0 = shF c (fs.getD i f0) := by
  simp [List.getD_eq_getElem?_getD, List.getElem?_eq_getElem h]
theorem sh_same {fs : List F3} (h : FlowsP fs) (c : Int) (hc : 0 ≤ c) : SameP fs (fs.map (shF c)) := by
  have hl : (fs.map (shF c)).length = fs.length := by simp
  have hp : FlowsP (fs.map (shF c)) := ⟨by rw [hl]; exact h.1, fun i hi => by
    rw [hl] at hi
    rw [sh_getD c fs i hi]
    obtain ⟨a, b, d⟩ := h.2 i hi
    exact ⟨a, b, by show 0 ≤ _ + 1 + c; omega⟩⟩
  refine ⟨h, hp, ?_⟩
  rw [viewL_yes h, viewL_yes hp, hl]
  refine view_same fs _ fs.length (fun i hi => by rw [sh_getD c fs i hi]; exact ⟨rfl, rfl⟩) fun j k hj hk => ?_
  unfold nm
  rw [sh_getD c fs j hj, sh_getD c fs k hk]
  unfold shF
  simp only
  omega
theorem take_map_succ (fs : List F3) (c : Int) (i : Nat) (h : i < fs.length) : (fs.take (i + 1)).map (shF c) = (fs.take i).map (shF c) ++ [shF c (fs.getD i f0)] := by
  rw [List.take_succ_eq_append_getElem h, List.map_append]
  simp [List.getD_eq_getElem?_getD, List.getElem?_eq_getElem h]
set_option maxHeartbeats 4000000 in
theorem fnViewRename_walk (ao : Option Addr) (n cap : Nat) (bo : Option Addr) (m cap' : Nat) (w : World) (h1 : CodeAt w ao n cap) (h2 : CodeAt w bo m cap') :
    Calls Try.prog 6 #[.slice ao n cap, .slice bo m cap'] w fun e w' => e = .returned (.bool true) ∧ w.grownBy w' none := by
  have hm := h2.max
  have hmc := h2.le
  by_cases a : (1048576 : Int) < n
  · go_enter Try.func6, Try.ntmps6
    go_wp2
    go_ret
    exact ⟨rfl, grown_refl _ _⟩
  by_cases b : (1048576 : Int) < m
  · go_enter Try.func6, Try.ntmps6
    go_wp2
    go_ret
    exact ⟨rfl, grown_refl _ _⟩
  · go_enter Try.func6, Try.ntmps6
    go_wp2_with fail
    refine (drawViewOf_any _ _ _ _ h1).mono ?_
    rintro e w1 ⟨fs, a1, c1, rfl, l1, sm, t1, g1⟩
    obtain ⟨N, hN⟩ : ∃ N, fs.length = N := ⟨_, rfl⟩
    rw [hN] at t1 l1 ⊢
    go_wp2_with fail
    refine (viewOf_any _ _ _ _ fs t1 sm.wf).mono ?_
    rintro e w2 ⟨v2, rfl, o2, g2⟩
    obtain ⟨a2, c2, rfl, t2⟩ := OwnF.shape o2
    go_wp2_with fail
    refine (viewOfS_any _ _ _ _ fs (t1.grown g2)).mono ?_
    rintro e w3 ⟨v3, rfl, o3, g3⟩
    obtain ⟨a3, c3, rfl, t3⟩ := OwnF.shape o3
    obtain ⟨K, hK⟩ : ∃ K, (viewL fs).length = K := ⟨_, rfl⟩
    rw [hK] at t2 t3 ⊢
    have HN := Lib.hid hN
    have HSM := Lib.hid sm
    have T1 := Lib.hid ((t1.grown g2).grown g3)
    have T2 := Lib.hid (t2.grown g3)
    have T3 := Lib.hid t3
    have G3 := Lib.hid (grown_trans g1 (grown_trans g2 g3))
    have HK := Lib.hid hK
    clear o2 o3 t1 t2 t3 g1 g2 g3 hK hN sm
    by_cases hK0 : K = 0
    case pos =>
      subst hK0
      go_wp2_with fail
      refine (sameFlows_any _ _ _ _ (viewL fs) _ _ _ (viewL fs) T2.out T3.out).mono ?_
      rintro e w4 ⟨rfl, d, rfl⟩
      rw [pb_true (p := viewL fs = viewL fs) rfl]
      go_wp2_with fail
      refine (sameFlows_any _ _ _ _ (viewL fs) _ _ _ (viewL fs) (T2.out.grown (grown_drewN _ d _)) (T3.out.grown (grown_drewN _ d _))).mono ?_
      rintro e w5 ⟨rfl, d2, rfl⟩
      rw [pb_true (p := viewL fs = viewL fs) rfl]
      go_wp2_with fail
      go_ret
      exact ⟨rfl, gDrewN G3.out _⟩
    case neg =>
      have hP : FlowsP fs := by
        refine Classical.byContradiction fun e => hK0 ?_
        rw [← HK.out, viewL_no e]; rfl
      have HP := Lib.hid hP
      have hKN : K = N := by rw [← HK.out, viewL_yes hP, viewR_len, HN.out]
      have VG := Lib.hid (show ∀ i, i < N → (viewL fs).getD i f0 = ((fs.getD i f0).1, (fs.getD i f0).2.1, ((num fs i : Nat) : Int)) from fun i hi => by
        rw [viewL_yes hP, HN.out]; exact viewR_getD fs N i hi)
      have hN16 : N ≤ 16 := by have := hP.1; have := HN.out; omega
      have k0 : ((K : Int) == 0) = false := by simp; omega
      have hNK := hKN.symm
      subst hNK
      clear hP hKN
      go_wp2_with fail
      refine (sameFlows_any _ _ _ _ (viewL fs) _ _ _ (viewL fs) T2.out T3.out).mono ?_
      rintro e w4 ⟨rfl, d, hd⟩
      rw [pb_true (p := viewL fs = viewL fs) rfl]
      have g4 : w3.grownBy w4 none := by rw [hd]; exact grown_drewN _ _ _
      have U1 := Lib.hid (T1.out.grown g4)
      have U2 := Lib.hid (T2.out.grown g4)
      have G4 := Lib.hid (grown_trans G3.out g4)
      clear hd g4 T1 T2 T3 G3
      have O0 := Lib.hid (ownF_nil w4.heap.size w4 (Nat.le_refl _))
      have G0 := Lib.hid (grown_alloc w4 (.cells #[] 28) none)
      clear U2
      go_wp2_with fail
      go_loopw [8, 9, 10] (fun v q p wr => ∃ i : Nat, i ≤ N ∧ q = .int .i64 i ∧ Hid (OwnF w4.heap.size wr v ((fs.take i).map (shF m))) ∧ Hid (w4.grownBy wr none)) (fun _ q _ _ => N - (intOf q).toNat)
      case atStart => exact ⟨0, by omega, rfl, O0, G0⟩
      case round =>
        clear O0 G0
        obtain ⟨i, hi, rfl, ho, hg⟩ := hrel
        obtain ⟨wo, rfl⟩ : ∃ wo : World, wo = wr := ⟨_, rfl⟩
        by_cases hin : i < N
        · have ST := take_map_succ fs m i (by rw [HN.out]; exact hin)
          have SB := HSM.out i (by rw [HN.out]; exact hin)
          have LE := Lib.hid (show ((fs.take i).map (shF m)).length = i by rw [List.length_map, List.length_take, HN.out]; omega)
          obtain ⟨b, off, rfl, -, c0, c1', c2'⟩ := (U1.out.grown hg.out).at i hin
          obtain ⟨f, hf⟩ : ∃ f, fs.getD i f0 = f := ⟨_, rfl⟩
          obtain ⟨x, y, z⟩ := f
          rw [hf] at c0 c1' c2' SB ST
          simp only at c0 c1' c2' SB
          obtain ⟨s0, s1⟩ := SB
          have HST := Lib.hid ST
          clear hf ST
          have i0 : (0 : Int) ≤ (i : Int) := by omega
          have i1 : (i : Int) < N := by omega
          go_wp2_with (at_builtin; refine app_flows rfl (.tmp 55) (.tmp 57) rfl (OwnF.grown ho.out (by (repeat (with_reducible (first | refine gDrew ?_ | refine gDrewN ?_ _ | refine gAlloc ?_ _))); exact grown_refl _ _)) rfl rfl (one_flow_at _ _ _ _ _ (by first | rfl | simp)) (grown_trans hg.out (by (repeat (with_reducible (first | refine gDrew ?_ | refine gDrewN ?_ _ | refine gAlloc ?_ _))); exact grown_refl _ _)).size (by rw [LE.out]; simp; omega) ?_; intro v9 w9 o9 g9 s9; refine Hid.out ?_)
          show wpList _ _ _ _ _ _
          have G9 := Lib.hid (grownF_own (grown_trans hg.out (by (repeat (with_reducible (first | refine gDrew ?_ | refine gDrewN ?_ _ | refine gAlloc ?_ _))); exact grown_refl _ _)) (OwnF.grown ho.out (by (repeat (with_reducible (first | refine gDrew ?_ | refine gDrewN ?_ _ | refine gAlloc ?_ _))); exact grown_refl _ _)) g9 (Nat.le_refl _))
          have O9 := Lib.hid o9
          clear o9 g9 s9 ho hg c0 c1' c2'
          go_wp2
          go_roundw
          case rel => exact ⟨i + 1, by omega, by go_num, by rw [HST.out]; exact O9, G9⟩
          case measure => simp [intOf]; omega
        · have hin' : i = N := by omega
          have TA := Lib.hid (show fs.take i = fs from List.take_of_length_le (by rw [HN.out]; omega))
          have OX := ho.out
          rw [TA.out] at OX
          obtain ⟨a8, c8, rfl, t8⟩ := OwnF.shape OX
          rw [show (fs.map (shF (m : Int))).length = N by rw [List.length_map, HN.out]] at t8 ⊢
          have T8 := Lib.hid t8
          have V1 := Lib.hid (U1.out.grown hg.out)
          have G8 := Lib.hid (grown_trans G4.out hg.out)
          have SS := Lib.hid (sh_same HP.out (m : Int) (by omega))
          have WF : Hid (Wf (fs.map (shF m))) := Lib.hid fun j hj => by
            rw [List.length_map] at hj
            rw [sh_getD _ _ _ hj]
            have := HSM.out j hj
            show _ + 1 + (m : Int) ≤ _
            omega
          clear OX t8 hin' ho
          go_wp2_with fail
          refine (viewSame_any _ _ _ _ fs _ _ _ (fs.map (shF m)) V1.out T8.out HSM.out.wf WF.out).mono ?_
          rintro e w9 ⟨rfl, g9⟩
          rw [pb_true SS.out]
          go_wp2_with fail
          go_ret
          exact ⟨rfl, grown_trans G8.out g9⟩
end Go.Proofs.Ytolifggjblfobaa
