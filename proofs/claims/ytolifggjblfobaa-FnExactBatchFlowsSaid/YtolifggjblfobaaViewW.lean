/- The walks of FnView, FnViewKeeps, FnViewPart. -/
import Derived.Test.YtolifggjblfobaaDrawF
import Derived.Test.YtolifggjblfobaaViewL
import Derived.Test.YtolifggjblfobaaViewI
import Derived.Test.YtolifggjblfobaaFlowE
import Derived.WalkKit
import Derived.Lib.Hide
import Derived.Deep.QuietTactic
import Derived.BigQuiet
namespace Go.Proofs.Ytolifggjblfobaa
open Go.RowKit
theorem drawViewOf_any (w : World) (ao : Option Addr) (n cap : Nat) (hco : CodeAt w ao n cap) :
    Calls Try.prog 18 #[.slice ao n cap] w fun e w' => ∃ fs, ∃ a1 c1, e = .returned (.slice a1 fs.length c1) ∧ fs.length ≤ 17 ∧ SmallF fs ∧ FlowsAt w' a1 fs.length c1 fs ∧ w.grownBy w' none := by
  go_enter Try.func18, Try.ntmps18
  go_wp2_with fail
  refine (l6Open_any _ _ _ _ hco).mono ?_
  rintro e w1 ⟨rb, rfl, z1, g1, r1⟩
  go_wp2_with fail
  refine (l92Flows_any rb 0 _ r1 (by omega)).mono ?_
  rintro e w2 ⟨fs, v2, rfl, l2, s2, o2, g2, r2⟩
  obtain ⟨a2, c2, rfl, t2⟩ := OwnF.shape o2
  go_wp2_with fail
  go_ret
  exact ⟨fs, _, _, rfl, l2, s2, t2, grown_new g1 g2 z1⟩
set_option maxHeartbeats 2000000 in
theorem fnViewKeeps_walk (ao : Option Addr) (n cap : Nat) (w : World) (h1 : CodeAt w ao n cap) :
    Calls Try.prog 4 #[.slice ao n cap] w fun e w' => e = .returned (.bool true) ∧ w.grownBy w' none := by
  by_cases a : (1048576 : Int) < n
  · go_enter Try.func4, Try.ntmps4
    go_wp2
    go_ret
    exact ⟨rfl, grown_refl _ _⟩
  · go_enter Try.func4, Try.ntmps4
    go_wp2_with fail
    refine (drawViewOf_any _ _ _ _ h1).mono ?_
    rintro e w1 ⟨fs, a1, c1, rfl, l1, sm, t1, g1⟩
    obtain ⟨N, hN⟩ : ∃ N, fs.length = N := ⟨_, rfl⟩
    rw [hN] at t1 l1 ⊢
    go_wp2_with fail
    refine (viewOf_any _ _ _ _ fs t1 sm.wf).mono ?_
    rintro e w2 ⟨v2, rfl, o2, g2⟩
    obtain ⟨a2, c2, rfl, t2⟩ := OwnF.shape o2
    go_wp2_with fail
    refine (viewOfS_any _ _ _ _ fs (t1.grown g2)).mono ?_
    rintro e w3 ⟨v3, rfl, o3, g3⟩
    obtain ⟨a3, c3, rfl, t3⟩ := OwnF.shape o3
    obtain ⟨K, hK⟩ : ∃ K, (viewL fs).length = K := ⟨_, rfl⟩
    rw [hK] at t2 t3 ⊢
    have HN := Lib.hid hN
    have HSM := Lib.hid sm
    have T1 := Lib.hid ((t1.grown g2).grown g3)
    have T2 := Lib.hid (t2.grown g3)
    have T3 := Lib.hid t3
    have G3 := Lib.hid (grown_trans g1 (grown_trans g2 g3))
    have HK := Lib.hid hK
    clear o2 o3 t1 t2 t3 g1 g2 g3 hK hN sm
    by_cases hK0 : K = 0
    case pos =>
      subst hK0
      go_wp2_with fail
      refine (sameFlows_any _ _ _ _ (viewL fs) _ _ _ (viewL fs) T2.out T3.out).mono ?_
      rintro e w4 ⟨rfl, d, rfl⟩
      rw [pb_true (p := viewL fs = viewL fs) rfl]
      go_wp2_with fail
      refine (sameFlows_any _ _ _ _ (viewL fs) _ _ _ (viewL fs) (T2.out.grown (grown_drewN _ d _)) (T3.out.grown (grown_drewN _ d _))).mono ?_
      rintro e w5 ⟨rfl, d2, rfl⟩
      rw [pb_true (p := viewL fs = viewL fs) rfl]
      go_wp2_with fail
      go_ret
      exact ⟨rfl, gDrewN G3.out _⟩
    case neg =>
      have hP : FlowsP fs := by
        refine Classical.byContradiction fun e => hK0 ?_
        rw [← HK.out, viewL_no e]; rfl
      have HP := Lib.hid hP
      have hKN : K = N := by rw [← HK.out, viewL_yes hP, viewR_len, HN.out]
      have VG := Lib.hid (show ∀ i, i < N → (viewL fs).getD i f0 = ((fs.getD i f0).1, (fs.getD i f0).2.1, ((num fs i : Nat) : Int)) from fun i hi => by
        rw [viewL_yes hP, HN.out]; exact viewR_getD fs N i hi)
      have hN16 : N ≤ 16 := by have := hP.1; have := HN.out; omega
      have k0 : ((K : Int) == 0) = false := by simp; omega
      have hNK := hKN.symm
      subst hNK
      clear hP hKN
      go_wp2_with fail
      refine (sameFlows_any _ _ _ _ (viewL fs) _ _ _ (viewL fs) T2.out T3.out).mono ?_
      rintro e w4 ⟨rfl, d, hd⟩
      rw [pb_true (p := viewL fs = viewL fs) rfl]
      have g4 : w3.grownBy w4 none := by rw [hd]; exact grown_drewN _ _ _
      have U1 := Lib.hid (T1.out.grown g4)
      have U2 := Lib.hid (T2.out.grown g4)
      have G4 := Lib.hid (grown_trans G3.out g4)
      clear hd g4 T1 T2 T3 G3
      go_wp2_with fail
      go_loopw [6] (fun q wr => ∃ i : Nat, i ≤ N ∧ q = .int .i64 i ∧ Hid (∃ d, wr = w4.drewN d)) (fun q _ => N - (intOf q).toNat)
      case atStart => exact ⟨0, by omega, rfl, Lib.hid ⟨0, rfl⟩⟩
      case round =>
        obtain ⟨i, hi, rfl, hd⟩ := hrel
        have gr := drewN_grown hd.out none
        by_cases hin : i < N
        · obtain ⟨b, off, rfl, -, c0, c1', c2'⟩ := (U1.out.grown gr).at i hin
          obtain ⟨b', off', rfl, -, d0, d1, d2⟩ := (U2.out.grown gr).at i hin
          rw [VG.out i hin] at d0 d1 d2
          obtain ⟨f, hf⟩ : ∃ f, fs.getD i f0 = f := ⟨_, rfl⟩
          obtain ⟨x, y, z⟩ := f
          rw [hf] at c0 c1' c2' d0 d1 d2
          simp only at c0 c1' c2' d0 d1 d2
          clear hf gr
          have i0 : (0 : Int) ≤ (i : Int) := by omega
          have i1 : (i : Int) < N := by omega
          go_wp2_with fail
          go_quiet (fail)
          go_wp2
          go_roundw
          case rel => exact ⟨i + 1, by omega, by go_num, drewN_more hd _⟩
          case measure => simp [intOf]; omega
        · have GG := Lib.hid (grown_trans G4.out gr)
          clear gr
          go_wp2
          go_ret
          exact ⟨rfl, GG.out⟩
set_option maxHeartbeats 4000000 in
theorem fnView_walk (ao : Option Addr) (n cap : Nat) (w : World) (h1 : CodeAt w ao n cap) :
    Calls Try.prog 3 #[.slice ao n cap] w fun e w' => e = .returned (.bool true) ∧ w.grownBy w' none := by
  by_cases a : (1048576 : Int) < n
  · go_enter Try.func3, Try.ntmps3
    go_wp2
    go_ret
    exact ⟨rfl, grown_refl _ _⟩
  · go_enter Try.func3, Try.ntmps3
    go_wp2_with fail
    refine (drawViewOf_any _ _ _ _ h1).mono ?_
    rintro e w1 ⟨fs, a1, c1, rfl, l1, sm, t1, g1⟩
    obtain ⟨N, hN⟩ : ∃ N, fs.length = N := ⟨_, rfl⟩
    rw [hN] at t1 l1 ⊢
    go_wp2_with fail
    refine (viewOf_any _ _ _ _ fs t1 sm.wf).mono ?_
    rintro e w2 ⟨v2, rfl, o2, g2⟩
    obtain ⟨a2, c2, rfl, t2⟩ := OwnF.shape o2
    go_wp2_with fail
    refine (viewOfS_any _ _ _ _ fs (t1.grown g2)).mono ?_
    rintro e w3 ⟨v3, rfl, o3, g3⟩
    obtain ⟨a3, c3, rfl, t3⟩ := OwnF.shape o3
    obtain ⟨K, hK⟩ : ∃ K, (viewL fs).length = K := ⟨_, rfl⟩
    rw [hK] at t2 t3 ⊢
    have HN := Lib.hid hN
    have HSM := Lib.hid sm
    have T1 := Lib.hid ((t1.grown g2).grown g3)
    have T2 := Lib.hid (t2.grown g3)
    have T3 := Lib.hid t3
    have G3 := Lib.hid (grown_trans g1 (grown_trans g2 g3))
    have HK := Lib.hid hK
    clear o2 o3 t1 t2 t3 g1 g2 g3 hK hN sm
    by_cases hK0 : K = 0
    case pos =>
      subst hK0
      go_wp2_with fail
      refine (sameFlows_any _ _ _ _ (viewL fs) _ _ _ (viewL fs) T2.out T3.out).mono ?_
      rintro e w4 ⟨rfl, d, rfl⟩
      rw [pb_true (p := viewL fs = viewL fs) rfl]
      go_wp2_with fail
      refine (sameFlows_any _ _ _ _ (viewL fs) _ _ _ (viewL fs) (T2.out.grown (grown_drewN _ d _)) (T3.out.grown (grown_drewN _ d _))).mono ?_
      rintro e w5 ⟨rfl, d2, rfl⟩
      rw [pb_true (p := viewL fs = viewL fs) rfl]
      go_wp2_with fail
      go_ret
      exact ⟨rfl, gDrewN G3.out _⟩
    case neg =>
      have hP : FlowsP fs := by
        refine Classical.byContradiction fun e => hK0 ?_
        rw [← HK.out, viewL_no e]; rfl
      have HP := Lib.hid hP
      have hKN : K = N := by rw [← HK.out, viewL_yes hP, viewR_len, HN.out]
      have VG := Lib.hid (show ∀ i, i < N → (viewL fs).getD i f0 = ((fs.getD i f0).1, (fs.getD i f0).2.1, ((num fs i : Nat) : Int)) from fun i hi => by
        rw [viewL_yes hP, HN.out]; exact viewR_getD fs N i hi)
      have hN16 : N ≤ 16 := by have := hP.1; have := HN.out; omega
      have k0 : ((K : Int) == 0) = false := by simp; omega
      have hNK := hKN.symm
      subst hNK
      clear hP hKN
      go_wp2_with fail
      refine (sameFlows_any _ _ _ _ (viewL fs) _ _ _ (viewL fs) T2.out T3.out).mono ?_
      rintro e w4 ⟨rfl, d, hd⟩
      rw [pb_true (p := viewL fs = viewL fs) rfl]
      have g4 : w3.grownBy w4 none := by rw [hd]; exact grown_drewN _ _ _
      have U1 := Lib.hid (T1.out.grown g4)
      have U2 := Lib.hid (T2.out.grown g4)
      have G4 := Lib.hid (grown_trans G3.out g4)
      clear hd g4 T1 T2 T3 G3
      go_wp2_with fail
      go_loopw [6, 7, 8] (fun s q t wr => ∃ i S : Nat, i ≤ N ∧ q = .int .i64 i ∧ s = .int .i64 S ∧ S ≤ i ∧ Hid (S = (seen fs i).length) ∧ Hid (∃ d, wr = w4.drewN d)) (fun _ q _ _ => N - (intOf q).toNat)
      case atStart => exact ⟨0, 0, by omega, rfl, rfl, by omega, Lib.hid rfl, Lib.hid ⟨0, rfl⟩⟩
      case round =>
        obtain ⟨i, S, hi, rfl, rfl, hS, hs, hd⟩ := hrel
        have gr := drewN_grown hd.out none
        by_cases hin : i < N
        · obtain ⟨b, off, rfl, -, _, _, _⟩ := (U1.out.grown gr).at i hin
          obtain ⟨b', off', rfl, -, _, _, d2⟩ := (U2.out.grown gr).at i hin
          rw [VG.out i hin] at d2
          have hle := num_le fs i
          have hnx := num_next fs i
          rw [← hs.out] at hle hnx
          obtain ⟨PP, hPP⟩ : ∃ p, num fs i = p := ⟨_, rfl⟩
          have HPP := Lib.hid hPP
          simp only [hPP] at d2 hle hnx
          clear hPP gr hs
          by_cases hpS : PP = S
          · rw [if_pos hpS] at hnx
            have SN := Lib.hid hnx.symm
            subst hpS
            obtain ⟨SS, hSS⟩ : ∃ s, PP + 1 = s := ⟨_, rfl⟩
            rw [hSS] at SN
            have e9 : ((PP : Int) + 1) = (SS : Int) := by omega
            have hgt : ¬ (PP : Int) < (PP : Int) := by omega
            have hSi : SS ≤ i + 1 := by omega
            clear hnx
            go_wp2_with fail
            go_loopw [8] (fun q wr => ∃ k : Nat, k ≤ i ∧ q = .int .i64 k ∧ Hid (∃ d, wr = w4.drewN d)) (fun q _ => i - (intOf q).toNat)
            case atStart => exact ⟨0, by omega, rfl, hd⟩
            case round =>
              obtain ⟨k, hk, rfl, hd2⟩ := hrel
              have gr2 := drewN_grown hd2.out none
              by_cases hki : k < i
              · obtain ⟨b2, off2, e1, -, _, _, cx⟩ := (U1.out.grown gr2).at k (by omega)
                obtain ⟨b3, off3, e2, -, _, _, dx⟩ := (U2.out.grown gr2).at k (by omega)
                obtain ⟨b4, off4, e3, -, _, _, cy⟩ := (U1.out.grown gr2).at i hin
                obtain ⟨b5, off5, e4, -, _, _, dy⟩ := (U2.out.grown gr2).at i hin
                simp only [Option.some.injEq, Addr.mk.injEq, and_true] at e1 e2 e3 e4
                obtain ⟨rfl, rfl⟩ := e1
                obtain ⟨rfl, rfl⟩ := e2
                obtain ⟨rfl, rfl⟩ := e3
                obtain ⟨rfl, rfl⟩ := e4
                rw [VG.out i hin] at dy
                rw [VG.out k (by omega)] at dx
                have NE := num_eq fs k i
                unfold nm at NE
                obtain ⟨pk, hpk⟩ : ∃ p, num fs k = p := ⟨_, rfl⟩
                obtain ⟨xk, hxk⟩ : ∃ p, (fs.getD k f0).2.2 = p := ⟨_, rfl⟩
                obtain ⟨xi, hxi⟩ : ∃ p, (fs.getD i f0).2.2 = p := ⟨_, rfl⟩
                rw [hpk] at dx NE
                rw [HPP.out] at dy NE
                rw [hxk] at cx NE
                rw [hxi] at cy NE
                have i0 : (0 : Int) ≤ (i : Int) := by omega
                have i1 : (i : Int) < N := by omega
                have k0 : (0 : Int) ≤ (k : Int) := by omega
                have k1 : (k : Int) < N := by omega
                clear hpk hxk hxi gr2
                by_cases hx : xk = xi
                · have t1 : (xk == xi) = true := by simpa using hx
                  have t2 := NE.2 hx
                  subst t2
                  clear hx NE
                  go_wp2_with fail
                  go_quiet (fail)
                  go_wp2
                  go_roundw
                  case rel => exact ⟨k + 1, by omega, by go_num, drewN_more hd2 _⟩
                  case measure => simp [intOf]; omega
                · have t1 : (xk == xi) = false := by simpa using hx
                  have t2 : ((pk : Int) == (PP : Int)) = false := by
                    have : ¬ pk = PP := fun e => hx (NE.1 e)
                    simp; omega
                  clear hx NE
                  go_wp2_with fail
                  go_quiet (fail)
                  go_wp2
                  go_roundw
                  case rel => exact ⟨k + 1, by omega, by go_num, drewN_more hd2 _⟩
                  case measure => simp [intOf]; omega
              · clear gr2
                go_wp2
                go_roundw
                case rel => exact ⟨i + 1, SS, by omega, by go_num, by go_num, by omega, SN, hd2⟩
                case measure => simp [intOf]; omega
          · rw [if_neg hpS] at hnx
            have SN := Lib.hid hnx.symm
            obtain ⟨SS, hSS⟩ : ∃ s, S = s := ⟨_, rfl⟩
            have hSS' := hSS.symm
            subst hSS'
            have hne : ((PP : Int) == (SS : Int)) = false := by simp; omega
            have hgt : ¬ SS < PP := by omega
            have hSi : SS ≤ i + 1 := by omega
            clear hnx hpS hSS
            go_wp2_with fail
            go_loopw [8] (fun q wr => ∃ k : Nat, k ≤ i ∧ q = .int .i64 k ∧ Hid (∃ d, wr = w4.drewN d)) (fun q _ => i - (intOf q).toNat)
            case atStart => exact ⟨0, by omega, rfl, hd⟩
            case round =>
              obtain ⟨k, hk, rfl, hd2⟩ := hrel
              have gr2 := drewN_grown hd2.out none
              by_cases hki : k < i
              · obtain ⟨b2, off2, e1, -, _, _, cx⟩ := (U1.out.grown gr2).at k (by omega)
                obtain ⟨b3, off3, e2, -, _, _, dx⟩ := (U2.out.grown gr2).at k (by omega)
                obtain ⟨b4, off4, e3, -, _, _, cy⟩ := (U1.out.grown gr2).at i hin
                obtain ⟨b5, off5, e4, -, _, _, dy⟩ := (U2.out.grown gr2).at i hin
                simp only [Option.some.injEq, Addr.mk.injEq, and_true] at e1 e2 e3 e4
                obtain ⟨rfl, rfl⟩ := e1
                obtain ⟨rfl, rfl⟩ := e2
                obtain ⟨rfl, rfl⟩ := e3
                obtain ⟨rfl, rfl⟩ := e4
                rw [VG.out i hin] at dy
                rw [VG.out k (by omega)] at dx
                have NE := num_eq fs k i
                unfold nm at NE
                obtain ⟨pk, hpk⟩ : ∃ p, num fs k = p := ⟨_, rfl⟩
                obtain ⟨xk, hxk⟩ : ∃ p, (fs.getD k f0).2.2 = p := ⟨_, rfl⟩
                obtain ⟨xi, hxi⟩ : ∃ p, (fs.getD i f0).2.2 = p := ⟨_, rfl⟩
                rw [hpk] at dx NE
                rw [HPP.out] at dy NE
                rw [hxk] at cx NE
                rw [hxi] at cy NE
                have i0 : (0 : Int) ≤ (i : Int) := by omega
                have i1 : (i : Int) < N := by omega
                have k0 : (0 : Int) ≤ (k : Int) := by omega
                have k1 : (k : Int) < N := by omega
                clear hpk hxk hxi gr2
                by_cases hx : xk = xi
                · have t1 : (xk == xi) = true := by simpa using hx
                  have t2 := NE.2 hx
                  subst t2
                  clear hx NE
                  go_wp2_with fail
                  go_quiet (fail)
                  go_wp2
                  go_roundw
                  case rel => exact ⟨k + 1, by omega, by go_num, drewN_more hd2 _⟩
                  case measure => simp [intOf]; omega
                · have t1 : (xk == xi) = false := by simpa using hx
                  have t2 : ((pk : Int) == (PP : Int)) = false := by
                    have : ¬ pk = PP := fun e => hx (NE.1 e)
                    simp; omega
                  clear hx NE
                  go_wp2_with fail
                  go_quiet (fail)
                  go_wp2
                  go_roundw
                  case rel => exact ⟨k + 1, by omega, by go_num, drewN_more hd2 _⟩
                  case measure => simp [intOf]; omega
              · clear gr2
                go_wp2
                go_roundw
                case rel => exact ⟨i + 1, SS, by omega, by go_num, by go_num, by omega, SN, hd2⟩
                case measure => simp [intOf]; omega
        · have GG := Lib.hid (grown_trans G4.out gr)
          clear gr
          go_wp2
          go_ret
          exact ⟨rfl, GG.out⟩
end Go.Proofs.Ytolifggjblfobaa
