/- The walks of FnBatchFresh, FnBatchTwo and FnBatch. -/
import Derived.Test.YtolifggjblfobaaDrawB
import Derived.Test.YtolifggjblfobaaBatL
import Derived.WalkKit
import Derived.Lib.Hide
import Derived.Deep.QuietTactic
import Derived.BigQuiet
namespace Go.Proofs.Ytolifggjblfobaa
open Go.RowKit
set_option maxHeartbeats 4000000 in
theorem fnBatchFresh_walk (ao : Option Addr) (n cap : Nat) (w : World) (h1 : CodeAt w ao n cap) :
    Calls Try.prog 11 #[.slice ao n cap] w fun e w' => e = .returned (.bool true) ∧ w.grownBy w' none := by
  by_cases a : (1048576 : Int) < n
  · go_enter Try.func11, Try.ntmps11
    go_wp2
    go_ret
    exact ⟨rfl, grown_refl _ _⟩
  · go_enter Try.func11, Try.ntmps11
    go_wp2_with fail
    refine (drawBatchFlows_any _ _ _ _ h1).mono ?_
    rintro e w1 ⟨ss, rs, c, a1, c1, a1', c1', rfl, ls, lr, hc0, hc1, t1, t1', g1⟩
    obtain ⟨N, hN⟩ : ∃ N, ss.length = N := ⟨_, rfl⟩
    obtain ⟨M, hM⟩ : ∃ M, rs.length = M := ⟨_, rfl⟩
    rw [hN] at t1 ls ⊢
    rw [hM] at t1' lr ⊢
    go_wp2_with fail
    refine (batchFlows_any _ _ _ _ ss _ _ _ rs c t1 t1' (by omega) (by omega)).mono ?_
    rintro e w2 ⟨v2, rfl, o2, g2⟩
    obtain ⟨a2, c2, rfl, t2⟩ := OwnF.shape o2
    go_wp2_with fail
    refine (batchFlowsS_any _ _ _ _ ss _ _ _ rs c (t1.grown g2) (t1'.grown g2) (by omega) (by omega)).mono ?_
    rintro e w3 ⟨v3, rfl, o3, g3⟩
    obtain ⟨a3, c3, rfl, t3⟩ := OwnF.shape o3
    obtain ⟨K, hK⟩ : ∃ K, (batchL ss rs c).length = K := ⟨_, rfl⟩
    rw [hK] at t2 t3 o2 ⊢
    have HN := Lib.hid hN
    have HM := Lib.hid hM
    have T1 := Lib.hid ((t1.grown g2).grown g3)
    have T1' := Lib.hid ((t1'.grown g2).grown g3)
    have T2 := Lib.hid (t2.grown g3)
    have W2 := Lib.hid (OwnF.grown o2 g3)
    have T3 := Lib.hid t3
    have G3 := Lib.hid (grown_trans g1 (grown_trans g2 g3))
    have HK := Lib.hid hK
    clear o2 o3 t1 t1' t2 t3 g1 g2 g3 hK hN hM
    by_cases hK0 : K = 0
    case pos =>
      subst hK0
      go_wp2_with fail
      refine (sameFlows_any _ _ _ _ (batchL ss rs c) _ _ _ (batchL ss rs c) T2.out T3.out).mono ?_
      rintro e w4 ⟨rfl, d, rfl⟩
      rw [pb_true (p := batchL ss rs c = batchL ss rs c) rfl]
      go_wp2_with fail
      refine (sameFlows_any _ _ _ _ (batchL ss rs c) _ _ _ (batchL ss rs c) (T2.out.grown (grown_drewN _ d _)) (T3.out.grown (grown_drewN _ d _))).mono ?_
      rintro e w5 ⟨rfl, d2, rfl⟩
      rw [pb_true (p := batchL ss rs c = batchL ss rs c) rfl]
      go_wp2_with fail
      go_ret
      exact ⟨rfl, gDrewN G3.out _⟩
    case neg =>
      have hP : BatchP ss rs c := by
        refine Classical.byContradiction fun e => hK0 ?_
        rw [← HK.out, batchL_no e]; rfl
      have HP := Lib.hid hP
      have hMN : M = N := by have := hP.1.2.2; have := HN.out; have := HM.out; omega
      subst hMN
      have hKN : K = 2 * M := by have := batchR_len hP; rw [← batchL_yes hP, HK.out, HN.out] at this; exact this
      have HB := Lib.hid (batchL_yes hP)
      have hM8 : M ≤ 8 := by have := hP.2.1; have := HN.out; omega
      have hM1 : 1 ≤ M := by omega
      have k0 : ((K : Int) == 0) = false := by simp; omega
      obtain ⟨L, hL⟩ : ∃ L, batchL ss rs c = L := ⟨_, rfl⟩
      rw [hL] at T2 T3 W2 HB HK
      have HLL := Lib.hid hL
      subst hKN
      have kz : ((2 * (M : Int)) == 0) = false := by simp; omega
      clear hP hL
      go_wp2_with fail
      refine (sameFlows_any _ _ _ _ L _ _ _ L T2.out T3.out).mono ?_
      rintro e w4 ⟨rfl, d, hd⟩
      rw [pb_true (p := L = L) rfl]
      have g4 : w3.grownBy w4 none := by rw [hd]; exact grown_drewN _ _ _
      have I1 := Lib.hid (T1.out.grown g4)
      have I2 := Lib.hid (T1'.out.grown g4)
      have U2 := Lib.hid (T2.out.grown g4)
      have W4 := Lib.hid (OwnF.grown W2.out g4)
      have U3 := Lib.hid (T3.out.grown g4)
      have G4 := Lib.hid (grown_trans G3.out g4)
      clear hd g4 T1 T1' T2 T3 W2 G3
      have FR := Lib.hid (show FreshF L by rw [HB.out]; exact batch_fresh HP.out)
      go_wp2_with fail
      go_loopw [8, 9] (fun q t wr => ∃ i : Nat, i ≤ 2 * M ∧ q = .int .i64 i ∧ Hid (∃ d, wr = w4.drewN d)) (fun q _ _ => 2 * M - (intOf q).toNat)
      case atStart => exact ⟨0, by omega, rfl, Lib.hid ⟨0, rfl⟩⟩
      case round =>
        obtain ⟨i, hi, rfl, hd⟩ := hrel
        by_cases hin : i < 2 * M
        · have hin2 : (i : Int) < 2 * (M : Int) := by omega
          go_wp2_with fail
          go_loopw [9] (fun q wr => ∃ k : Nat, k ≤ i ∧ q = .int .i64 k ∧ Hid (∃ d, wr = w4.drewN d)) (fun q _ => i - (intOf q).toNat)
          case atStart => exact ⟨0, by omega, rfl, hd⟩
          case round =>
            obtain ⟨k, hk, rfl, hd2⟩ := hrel
            by_cases hki : k < i
            · have gr2 := drewN_grown hd2.out none
              obtain ⟨b, off, rfl, -, _, _, cx⟩ := (U2.out.grown gr2).at i hin
              obtain ⟨b2, off2, e1, -, _, _, cy⟩ := (U2.out.grown gr2).at k (by omega)
              simp only [Option.some.injEq, Addr.mk.injEq, and_true] at e1
              obtain ⟨rfl, rfl⟩ := e1
              have NE := fresh_ne FR.out (j := i) (k := k) (by rw [HK.out]; omega) (by rw [HK.out]; omega)
              unfold nm at NE
              obtain ⟨xi, hxi⟩ : ∃ p, (L.getD i f0).2.2 = p := ⟨_, rfl⟩
              obtain ⟨xk, hxk⟩ : ∃ p, (L.getD k f0).2.2 = p := ⟨_, rfl⟩
              rw [hxi] at cx NE
              rw [hxk] at cy NE
              have hne : (xi == xk) = false := by
                have : ¬ xi = xk := fun e => by have := NE.1 e; omega
                simpa using this
              have i0 : (0 : Int) ≤ (i : Int) := by omega
              have i1 : (i : Int) < 2 * (M : Int) := by omega
              have k0 : (0 : Int) ≤ (k : Int) := by omega
              have k1 : (k : Int) < 2 * (M : Int) := by omega
              clear hxi hxk NE gr2
              go_wp2_with fail
              go_quiet (fail)
              go_wp2
              go_roundw
              case rel => exact ⟨k + 1, by omega, by go_num, drewN_more hd2 _⟩
              case measure => simp [intOf]; omega
            · go_wp2
              go_roundw
              case rel => exact ⟨i + 1, by omega, by go_num, hd2⟩
              case measure => simp [intOf]; omega
        · have GG := Lib.hid (grown_trans G4.out (drewN_grown hd.out none))
          have hin2 : ¬ (i : Int) < 2 * (M : Int) := by omega
          go_wp2
          go_ret
          exact ⟨rfl, GG.out⟩
theorem two_len {ss rs : List Int} {c : Int} (h : BatchP ss rs c) (h' : BatchP ss rs (c + 2 * (ss.length : Int))) : (batchR ss rs c ++ batchR ss rs (c + 2 * (ss.length : Int))).length = 4 * ss.length := by
  rw [List.length_append, batchR_len h, batchR_len h']; omega
theorem two_valid {ss rs : List Int} {c : Int} (h : BatchP ss rs c) (h' : BatchP ss rs (c + 2 * (ss.length : Int))) (h16 : 4 * ss.length ≤ 16) : FlowsP (batchR ss rs c ++ batchR ss rs (c + 2 * (ss.length : Int))) := by
  refine ⟨by rw [two_len h h']; exact h16, fun i hi => ?_⟩
  by_cases hl : i < (batchR ss rs c).length
  · rw [g_left _ _ hl]; exact (batch_valid h).2 i hl
  · rw [g_right _ _ (by omega)]
    rw [List.length_append] at hi
    exact (batch_valid h').2 _ (by omega)
theorem two_fresh {ss rs : List Int} {c : Int} (h : BatchP ss rs c) (h' : BatchP ss rs (c + 2 * (ss.length : Int))) : FreshF (batchR ss rs c ++ batchR ss rs (c + 2 * (ss.length : Int))) := by
  have h1 := batch_fresh h
  have h2 := batch_fresh h'
  unfold FreshF at *
  rw [List.map_append, List.nodup_append]
  refine ⟨h1, h2, ?_⟩
  intro a ha b hb
  obtain ⟨y, hy, rfl⟩ := List.mem_map.1 ha
  obtain ⟨z, hz, rfl⟩ := List.mem_map.1 hb
  have := batch_names hy h.1.2.2
  have := batch_names hz h.1.2.2
  omega
set_option maxHeartbeats 4000000 in
theorem fnBatchTwo_walk (ao : Option Addr) (n cap : Nat) (w : World) (h1 : CodeAt w ao n cap) :
    Calls Try.prog 14 #[.slice ao n cap] w fun e w' => e = .returned (.bool true) ∧ w.grownBy w' none := by
  by_cases a : (1048576 : Int) < n
  · go_enter Try.func14, Try.ntmps14
    go_wp2
    go_ret
    exact ⟨rfl, grown_refl _ _⟩
  · go_enter Try.func14, Try.ntmps14
    go_wp2_with fail
    refine (drawBatchFlows_any _ _ _ _ h1).mono ?_
    rintro e w1 ⟨ss, rs, c, a1, c1, a1', c1', rfl, ls, lr, hc0, hc1, t1, t1', g1⟩
    obtain ⟨N, hN⟩ : ∃ N, ss.length = N := ⟨_, rfl⟩
    obtain ⟨M, hM⟩ : ∃ M, rs.length = M := ⟨_, rfl⟩
    rw [hN] at t1 ls ⊢
    rw [hM] at t1' lr ⊢
    go_wp2_with fail
    refine (batchFlows_any _ _ _ _ ss _ _ _ rs c t1 t1' (by omega) (by omega)).mono ?_
    rintro e w2 ⟨v2, rfl, o2, g2⟩
    obtain ⟨a2, c2, rfl, t2⟩ := OwnF.shape o2
    go_wp2_with fail
    refine (batchFlowsS_any _ _ _ _ ss _ _ _ rs c (t1.grown g2) (t1'.grown g2) (by omega) (by omega)).mono ?_
    rintro e w3 ⟨v3, rfl, o3, g3⟩
    obtain ⟨a3, c3, rfl, t3⟩ := OwnF.shape o3
    obtain ⟨K, hK⟩ : ∃ K, (batchL ss rs c).length = K := ⟨_, rfl⟩
    rw [hK] at t2 t3 o2 ⊢
    have HN := Lib.hid hN
    have HM := Lib.hid hM
    have T1 := Lib.hid ((t1.grown g2).grown g3)
    have T1' := Lib.hid ((t1'.grown g2).grown g3)
    have T2 := Lib.hid (t2.grown g3)
    have W2 := Lib.hid (OwnF.grown o2 g3)
    have T3 := Lib.hid t3
    have G3 := Lib.hid (grown_trans g1 (grown_trans g2 g3))
    have HK := Lib.hid hK
    clear o2 o3 t1 t1' t2 t3 g1 g2 g3 hK hN hM
    by_cases hK0 : K = 0
    case pos =>
      subst hK0
      go_wp2_with fail
      refine (sameFlows_any _ _ _ _ (batchL ss rs c) _ _ _ (batchL ss rs c) T2.out T3.out).mono ?_
      rintro e w4 ⟨rfl, d, rfl⟩
      rw [pb_true (p := batchL ss rs c = batchL ss rs c) rfl]
      go_wp2_with fail
      refine (sameFlows_any _ _ _ _ (batchL ss rs c) _ _ _ (batchL ss rs c) (T2.out.grown (grown_drewN _ d _)) (T3.out.grown (grown_drewN _ d _))).mono ?_
      rintro e w5 ⟨rfl, d2, rfl⟩
      rw [pb_true (p := batchL ss rs c = batchL ss rs c) rfl]
      go_wp2_with fail
      go_ret
      exact ⟨rfl, gDrewN G3.out _⟩
    case neg =>
      have hP : BatchP ss rs c := by
        refine Classical.byContradiction fun e => hK0 ?_
        rw [← HK.out, batchL_no e]; rfl
      have HP := Lib.hid hP
      have hMN : M = N := by have := hP.1.2.2; have := HN.out; have := HM.out; omega
      subst hMN
      have hKN : K = 2 * M := by have := batchR_len hP; rw [← batchL_yes hP, HK.out, HN.out] at this; exact this
      have HB := Lib.hid (batchL_yes hP)
      have hM8 : M ≤ 8 := by have := hP.2.1; have := HN.out; omega
      have hM1 : 1 ≤ M := by omega
      have k0 : ((K : Int) == 0) = false := by simp; omega
      obtain ⟨L, hL⟩ : ∃ L, batchL ss rs c = L := ⟨_, rfl⟩
      rw [hL] at T2 T3 W2 HB HK
      have HLL := Lib.hid hL
      subst hKN
      have kz : ((2 * (M : Int)) == 0) = false := by simp; omega
      clear hP hL
      go_wp2_with fail
      refine (sameFlows_any _ _ _ _ L _ _ _ L T2.out T3.out).mono ?_
      rintro e w4 ⟨rfl, d, hd⟩
      rw [pb_true (p := L = L) rfl]
      have g4 : w3.grownBy w4 none := by rw [hd]; exact grown_drewN _ _ _
      have I1 := Lib.hid (T1.out.grown g4)
      have I2 := Lib.hid (T1'.out.grown g4)
      have U2 := Lib.hid (T2.out.grown g4)
      have W4 := Lib.hid (OwnF.grown W2.out g4)
      have U3 := Lib.hid (T3.out.grown g4)
      have G4 := Lib.hid (grown_trans G3.out g4)
      clear hd g4 T1 T1' T2 T3 W2 G3
      by_cases h4 : (16 : Int) < 2 * (2 * (M : Int))
      · go_wp2_with fail
        refine (sameFlows_any _ _ _ _ L _ _ _ L U2.out U3.out).mono ?_
        rintro e w5 ⟨rfl, d, rfl⟩
        rw [pb_true (p := L = L) rfl]
        go_wp2_with fail
        go_ret
        exact ⟨rfl, gDrewN G4.out d⟩
      · have h5 : ¬ (991 : Int) ≤ c + 2 * (M : Int) := by omega
        have HNN := HN.out
        have HP2 := Lib.hid (show BatchP ss rs (c + 2 * (ss.length : Int)) from ⟨HP.out.1, HP.out.2.1, by omega, by omega⟩)
        have V0 := Lib.hid (two_valid HP.out HP2.out (by omega))
        have F0 := Lib.hid (two_fresh HP.out HP2.out)
        have L0 := Lib.hid (two_len HP.out HP2.out)
        have E2 := Lib.hid (batchL_yes HP2.out)
        rw [HNN] at V0 F0 L0 E2
        rw [← E2.out, ← HB.out] at V0 F0 L0
        obtain ⟨c', hc'⟩ : ∃ c', c + 2 * (M : Int) = c' := ⟨_, rfl⟩
        rw [hc'] at V0 F0 L0 E2
        have h6 : ¬ (991 : Int) ≤ c' := by omega
        have h7 : decide ((991 : Int) ≤ c') = false := by simpa using h6
        have h8 : decide ((16 : Int) < 2 * (2 * (M : Int))) = false := by simpa using h4
        clear HNN h5
        go_wp2_with fail
        refine (batchFlows_any _ _ _ _ ss _ _ _ rs c' I1.out I2.out (by omega) (by omega)).mono ?_
        rintro e w5 ⟨v5, rfl, o5, g5⟩
        have P5 := Lib.hid (ownF_nil w5.heap.size w5 (Nat.le_refl _))
        have O5 := Lib.hid o5
        have W5 := Lib.hid (OwnF.grown W4.out g5)
        have G5 := Lib.hid (grown_trans G4.out g5)
        have LL : Hid ((batchL ss rs c').length ≤ 100) := Lib.hid (by have := L0.out; rw [List.length_append] at this; omega)
        have LX := HK.out
        clear o5 g5
        go_wp2_with (at_builtin; refine app_flows_own rfl (.tmp 60) (.tmp 61) rfl P5.out rfl rfl (OwnF.grown W5.out (grown_alloc _ _ _)) (by simp) (by rw [LX]; simp; omega) ?_; intro v6 w6 o6 g6 s6; refine Hid.out ?_)
        show wpList _ _ _ _ _ _
        rw [List.nil_append] at o6
        have g6' := grownF_own (grown_alloc w5 (.cells #[] 28) none) P5.out g6 (Nat.le_refl _)
        have O6 := Lib.hid o6
        have G6 := Lib.hid (grown_trans G5.out g6')
        have W6 := Lib.hid (OwnF.grown O5.out g6')
        have Z6 := g6'.size
        clear o6 g6 s6 P5 g6'
        go_wp2_with (at_builtin; refine app_flows_own rfl (.tmp 62) (.tmp 63) rfl O6.out rfl rfl W6.out (by omega) (by have := LL.out; omega) ?_; intro v7 w7 o7 g7 s7; refine Hid.out ?_)
        show wpList _ _ _ _ _ _
        have G7 := Lib.hid (grownF_own G6.out O6.out g7 (by have := G5.out.size; omega))
        obtain ⟨a7, c7, rfl, t7⟩ := OwnF.shape o7
        rw [L0.out] at t7 ⊢
        have T7 := Lib.hid t7
        clear o7 g7 s7 t7 O6 W6 W5 O5
        go_wp2_with fail
        refine (viewOf_any _ _ _ _ (L ++ batchL ss rs c') T7.out (by
          intro i hi
          have hm := g_mem hi
          have hn := HN.out
          obtain ⟨y, hy⟩ : ∃ y, (L ++ batchL ss rs c').getD i f0 = y := ⟨_, rfl⟩
          rw [hy] at hm ⊢
          rcases List.mem_append.1 hm with q | q
          · rw [HB.out] at q
            have := batch_names q HP.out.1.2.2
            omega
          · rw [E2.out] at q
            have := batch_names q HP.out.1.2.2
            omega)).mono ?_
        rintro e w8 ⟨v8, rfl, o8, g8⟩
        have VV := Lib.hid (show viewL (L ++ batchL ss rs c') = viewR (L ++ batchL ss rs c') (4 * M) by rw [viewL_yes V0.out, L0.out])
        rw [VV.out] at o8
        obtain ⟨a8, c8, rfl, t8⟩ := OwnF.shape o8
        rw [viewR_len] at t8 ⊢
        have T8 := Lib.hid t8
        have G8 := Lib.hid (grown_trans G7.out g8)
        have NV := Lib.hid (show ∀ i, i < 4 * M → ((viewR (L ++ batchL ss rs c') (4 * M)).getD i f0).2.2 = (i : Int) from fun i hi => by
          rw [← L0.out, view_fresh F0.out (by rw [L0.out]; exact hi)])
        clear o8 t8 g8
        go_wp2_with fail
        go_loop [10] (fun q => ∃ i : Nat, i ≤ 4 * M ∧ q = .int .i64 i) (fun q => 4 * M - (intOf q).toNat)
        case atStart => exact ⟨0, by omega, rfl⟩
        case round =>
          obtain ⟨i, hi, rfl⟩ := hrel
          by_cases hin : i < 4 * M
          · obtain ⟨b, off, rfl, -, _, _, cx⟩ := T8.out.at i hin
            rw [NV.out i hin] at cx
            have hne : ((i : Int) != (i : Int)) = false := by simp
            have i0 : (0 : Int) ≤ (i : Int) := by omega
            have i1 : (i : Int) < 4 * (M : Int) := by omega
            go_wp2
            go_round
            case rel => exact ⟨i + 1, by omega, by go_num⟩
            case measure => simp [intOf]; omega
          · have hi4 : ¬ (i : Int) < 4 * (M : Int) := by omega
            have he : ((4 * (M : Int)) == 2 * (2 * (M : Int))) = true := by simp; omega
            go_wp2
            go_ret
            exact ⟨rfl, G8.out⟩
theorem count_any (w : World) (ao : Option Addr) (n cap : Nat) (xs : List Int) (r : Int) (h : IntsAt w ao n cap xs) (hn : n ≤ 1000000) :
    Calls Try.prog 33 #[.slice ao n cap, .int .i64 r] w fun e w' => e = .returned (.int .i64 (cntI xs r : Nat)) ∧ w = w' := by
  have H := Lib.hid h.len
  go_enter Try.func33, Try.ntmps33
  go_wp2
  go_loop [5, 6] (fun c i => ∃ k : Nat, ∃ C : Nat, k ≤ n ∧ i = .int .i64 k ∧ c = .int .i64 C ∧ C ≤ k ∧ Hid (C = cntI (xs.take k) r)) (fun _ i => n - (intOf i).toNat)
  case atStart => exact ⟨0, 0, Nat.zero_le _, rfl, rfl, by omega, Lib.hid rfl⟩
  case round =>
    obtain ⟨k, C, hk, rfl, rfl, hC, hc⟩ := hrel
    by_cases hlt : k < n
    · obtain ⟨b, off, rfl, hb, hcc⟩ := h.addr (by omega)
      have cz := hcc k hlt
      have ST := Lib.hid (cntI_step xs r k (by rw [H.out]; exact hlt))
      obtain ⟨z, hz⟩ : ∃ z, xs.getD k 0 = z := ⟨_, rfl⟩
      rw [hz] at cz ST
      clear hz hcc
      by_cases hzr : z = r
      · have hb1 : (z == r) = true := by simpa using hzr
        have SN := Lib.hid (show C + 1 = cntI (xs.take (k + 1)) r by rw [ST.out, if_pos hzr, hc.out])
        clear ST hzr
        go_wp2
        go_round
        case rel => exact ⟨k + 1, C + 1, by omega, by go_num, by go_num, by omega, SN⟩
        case measure => simp [intOf]; omega
      · have hb1 : (z == r) = false := by simpa using hzr
        have SN := Lib.hid (show C = cntI (xs.take (k + 1)) r by rw [ST.out, if_neg hzr, hc.out]; rfl)
        clear ST hzr
        go_wp2
        go_round
        case rel => exact ⟨k + 1, C, by omega, by go_num, rfl, by omega, SN⟩
        case measure => simp [intOf]; omega
    · have hc' := hc.out
      rw [List.take_of_length_le (by rw [H.out]; omega)] at hc'
      have HC := Lib.hid hc'
      clear hc' hc
      go_wp2
      go_ret
      exact ⟨by rw [← HC.out]; rfl, rfl⟩
set_option maxHeartbeats 4000000 in
theorem fnBatch_walk (ao : Option Addr) (n cap : Nat) (w : World) (h1 : CodeAt w ao n cap) :
    Calls Try.prog 12 #[.slice ao n cap] w fun e w' => e = .returned (.bool true) ∧ w.grownBy w' none := by
  by_cases a : (1048576 : Int) < n
  · go_enter Try.func12, Try.ntmps12
    go_wp2
    go_ret
    exact ⟨rfl, grown_refl _ _⟩
  · go_enter Try.func12, Try.ntmps12
    go_wp2_with fail
    refine (drawBatchFlows_any _ _ _ _ h1).mono ?_
    rintro e w1 ⟨ss, rs, c, a1, c1, a1', c1', rfl, ls, lr, hc0, hc1, t1, t1', g1⟩
    obtain ⟨N, hN⟩ : ∃ N, ss.length = N := ⟨_, rfl⟩
    obtain ⟨M, hM⟩ : ∃ M, rs.length = M := ⟨_, rfl⟩
    rw [hN] at t1 ls ⊢
    rw [hM] at t1' lr ⊢
    go_wp2_with fail
    refine (batchFlows_any _ _ _ _ ss _ _ _ rs c t1 t1' (by omega) (by omega)).mono ?_
    rintro e w2 ⟨v2, rfl, o2, g2⟩
    obtain ⟨a2, c2, rfl, t2⟩ := OwnF.shape o2
    go_wp2_with fail
    refine (batchFlowsS_any _ _ _ _ ss _ _ _ rs c (t1.grown g2) (t1'.grown g2) (by omega) (by omega)).mono ?_
    rintro e w3 ⟨v3, rfl, o3, g3⟩
    obtain ⟨a3, c3, rfl, t3⟩ := OwnF.shape o3
    obtain ⟨K, hK⟩ : ∃ K, (batchL ss rs c).length = K := ⟨_, rfl⟩
    rw [hK] at t2 t3 o2 ⊢
    have HN := Lib.hid hN
    have HM := Lib.hid hM
    have T1 := Lib.hid ((t1.grown g2).grown g3)
    have T1' := Lib.hid ((t1'.grown g2).grown g3)
    have T2 := Lib.hid (t2.grown g3)
    have W2 := Lib.hid (OwnF.grown o2 g3)
    have T3 := Lib.hid t3
    have G3 := Lib.hid (grown_trans g1 (grown_trans g2 g3))
    have HK := Lib.hid hK
    clear o2 o3 t1 t1' t2 t3 g1 g2 g3 hK hN hM
    by_cases hK0 : K = 0
    case pos =>
      subst hK0
      go_wp2_with fail
      refine (sameFlows_any _ _ _ _ (batchL ss rs c) _ _ _ (batchL ss rs c) T2.out T3.out).mono ?_
      rintro e w4 ⟨rfl, d, rfl⟩
      rw [pb_true (p := batchL ss rs c = batchL ss rs c) rfl]
      go_wp2_with fail
      refine (sameFlows_any _ _ _ _ (batchL ss rs c) _ _ _ (batchL ss rs c) (T2.out.grown (grown_drewN _ d _)) (T3.out.grown (grown_drewN _ d _))).mono ?_
      rintro e w5 ⟨rfl, d2, rfl⟩
      rw [pb_true (p := batchL ss rs c = batchL ss rs c) rfl]
      go_wp2_with fail
      go_ret
      exact ⟨rfl, gDrewN G3.out _⟩
    case neg =>
      have hP : BatchP ss rs c := by
        refine Classical.byContradiction fun e => hK0 ?_
        rw [← HK.out, batchL_no e]; rfl
      have HP := Lib.hid hP
      have hMN : M = N := by have := hP.1.2.2; have := HN.out; have := HM.out; omega
      subst hMN
      have hKN : K = 2 * M := by have := batchR_len hP; rw [← batchL_yes hP, HK.out, HN.out] at this; exact this
      have HB := Lib.hid (batchL_yes hP)
      have hM8 : M ≤ 8 := by have := hP.2.1; have := HN.out; omega
      have hM1 : 1 ≤ M := by omega
      have k0 : ((K : Int) == 0) = false := by simp; omega
      obtain ⟨L, hL⟩ : ∃ L, batchL ss rs c = L := ⟨_, rfl⟩
      rw [hL] at T2 T3 W2 HB HK
      have HLL := Lib.hid hL
      subst hKN
      have kz : ((2 * (M : Int)) == 0) = false := by simp; omega
      clear hP hL
      go_wp2_with fail
      refine (sameFlows_any _ _ _ _ L _ _ _ L T2.out T3.out).mono ?_
      rintro e w4 ⟨rfl, d, hd⟩
      rw [pb_true (p := L = L) rfl]
      have g4 : w3.grownBy w4 none := by rw [hd]; exact grown_drewN _ _ _
      have I1 := Lib.hid (T1.out.grown g4)
      have I2 := Lib.hid (T1'.out.grown g4)
      have U2 := Lib.hid (T2.out.grown g4)
      have W4 := Lib.hid (OwnF.grown W2.out g4)
      have U3 := Lib.hid (T3.out.grown g4)
      have G4 := Lib.hid (grown_trans G3.out g4)
      clear hd g4 T1 T1' T2 T3 W2 G3
      obtain ⟨O, hO⟩ : ∃ O, outF rs (c + (M : Int)) M 8 = O := ⟨_, rfl⟩
      have HIN := Lib.hid (show ∀ i, i < M → L.getD i f0 = (ss.getD i 0, -1, c + (i : Int)) from fun i hi => by rw [HB.out]; exact batchR_in (by rw [HN.out]; exact hi))
      have HOUT := Lib.hid (show ∀ i, M ≤ i → L.getD i f0 = O.getD (i - M) f0 from fun i hi => by
        rw [HB.out, batchR_out (by rw [HN.out]; exact hi), HN.out, HM.out, hO])
      have OL := Lib.hid (show O.length = M by rw [← hO]; exact outF_len _ HP.out.1.2.1 _ (by rw [HM.out]; omega))
      have OC := Lib.hid (show ∀ r : Int, cntT O r = cntI rs r from fun r => by
        rw [← hO, cnt_out _ HP.out.1.2.1 r M (by rw [HM.out]; omega), List.take_of_length_le (by rw [HM.out]; omega)])
      have OS := Lib.hid (show O.Pairwise fun a b => a.2.1 ≤ b.2.1 by rw [← hO]; exact outF_sorted _ _ _ _)
      have OF := Lib.hid (show ∀ i, i < M → (O.getD i f0).1 = -1 from fun i hi => by
        have := mem_outF (rs := rs) (c := c + (M : Int)) (k := M) (r := 8) (y := O.getD i f0) (by rw [hO]; exact g_mem (by rw [OL.out]; exact hi))
        exact this.1)
      clear hO
      go_wp2_with fail
      go_loopw [9] (fun q wr => ∃ i : Nat, i ≤ M ∧ q = .int .i64 i ∧ Hid (∃ d, wr = w4.drewN d)) (fun q _ => M - (intOf q).toNat)
      case atStart => exact ⟨0, by omega, rfl, Lib.hid ⟨0, rfl⟩⟩
      case round =>
        obtain ⟨i, hi, rfl, hd⟩ := hrel
        by_cases hin : i < M
        · have gr := drewN_grown hd.out none
          obtain ⟨b, off, rfl, -, cx, cy, -⟩ := (U2.out.grown gr).at i (by omega)
          obtain ⟨b2, off2, rfl, -, ca⟩ := IntsAt.addr (I1.out.grown gr) (by omega)
          have cs := ca i hin
          rw [HIN.out i hin] at cx cy
          obtain ⟨x, hx⟩ : ∃ x, ss.getD i 0 = x := ⟨_, rfl⟩
          rw [hx] at cx cy cs
          simp only at cx cy
          have hxx : (x != x) = false := by simp
          have hdx : decide (x = x) = true := by simp
          have i0 : (0 : Int) ≤ (i : Int) := by omega
          have i1 : (i : Int) < M := by omega
          have i2 : (i : Int) < 2 * (M : Int) := by omega
          clear ca hx gr
          go_wp2_with fail
          go_quiet (fail)
          go_wp2
          go_roundw
          case rel => exact ⟨i + 1, by omega, by go_num, drewN_more hd _⟩
          case measure => simp [intOf]; omega
        · have hiM : M = i := by omega
          subst hiM
          go_wp2_with fail
          go_loopw [10, 11, 12] (fun q t p wr => ∃ r : Nat, r ≤ 8 ∧ q = .int .i64 r ∧ Hid (∃ d, wr = w4.drewN d)) (fun q _ _ _ => 8 - (intOf q).toNat)
          case atStart => exact ⟨0, by omega, rfl, hd⟩
          case round =>
            clear hd
            obtain ⟨r, hr, rfl, hd⟩ := hrel
            by_cases hr8 : r < 8
            · have hr8' : (r : Int) < 8 := by omega
              go_wp2_with fail
              go_loopw [11, 12] (fun t p wr => ∃ k C : Nat, k ≤ M ∧ p = .int .i64 ((M : Int) + (k : Int)) ∧ t = .int .i64 C ∧ C ≤ k ∧ Hid (C = cntT (O.take k) (r : Int)) ∧ Hid (∃ d, wr = w4.drewN d)) (fun _ p _ => 2 * M - (intOf p).toNat)
              case atStart => exact ⟨0, 0, by omega, by go_num, rfl, by omega, Lib.hid rfl, hd⟩
              case round =>
                clear hd
                obtain ⟨k, C, hk, rfl, rfl, hC, hc, hd⟩ := hrel
                have gr := drewN_grown hd.out none
                by_cases hkM : k < M
                · obtain ⟨b, off, rfl, -, -, cy, -⟩ := (U2.out.grown gr).at (M + k) (by omega)
                  rw [HOUT.out (M + k) (by omega), show M + k - M = k by omega] at cy
                  have ST := Lib.hid (cntT_step O (r : Int) k (by rw [OL.out]; exact hkM))
                  obtain ⟨y, hy⟩ : ∃ y, (O.getD k f0).2.1 = y := ⟨_, rfl⟩
                  rw [hy] at cy ST
                  have i0 : (0 : Int) ≤ (M : Int) + (k : Int) := by omega
                  have i1 : (M : Int) + (k : Int) < 2 * (M : Int) := by omega
                  have i2 : ((M : Int) + (k : Int)).toNat = M + k := by omega
                  clear hy gr
                  by_cases hyr : y = (r : Int)
                  · have hb1 : (y == (r : Int)) = true := by simpa using hyr
                    have SN := Lib.hid (show C + 1 = cntT (O.take (k + 1)) (r : Int) by rw [ST.out, if_pos hyr, hc.out])
                    clear ST hyr
                    go_wp2
                    go_roundw
                    case rel => exact ⟨k + 1, C + 1, by omega, by go_num, by go_num, by omega, SN, hd⟩
                    case measure => simp [intOf]; omega
                  · have hb1 : (y == (r : Int)) = false := by simpa using hyr
                    have SN := Lib.hid (show C = cntT (O.take (k + 1)) (r : Int) by rw [ST.out, if_neg hyr, hc.out]; rfl)
                    clear ST hyr
                    go_wp2
                    go_roundw
                    case rel => exact ⟨k + 1, C, by omega, by go_num, rfl, by omega, SN, hd⟩
                    case measure => simp [intOf]; omega
                · have i1 : ¬ (M : Int) + (k : Int) < 2 * (M : Int) := by omega
                  have hc' := hc.out
                  rw [List.take_of_length_le (by rw [OL.out]; omega), OC.out] at hc'
                  have HC := Lib.hid hc'
                  have CC : ((C : Int) != (C : Int)) = false := by simp
                  clear hc hc'
                  go_wp2_with fail
                  refine (count_any _ _ _ _ rs (r : Int) (I2.out.grown gr) (by omega)).mono ?_
                  rintro e w5 ⟨rfl, rfl⟩
                  rw [← HC.out]
                  clear gr
                  go_wp2
                  go_roundw
                  case rel => exact ⟨r + 1, by omega, by go_num, hd⟩
                  case measure => simp [intOf]; omega
            · go_wp2_with fail
              go_loopw [13] (fun p wr => ∃ k : Nat, k ≤ M ∧ p = .int .i64 ((M : Int) + (k : Int)) ∧ Hid (∃ d, wr = w4.drewN d)) (fun p _ => 2 * M - (intOf p).toNat)
              case atStart => exact ⟨0, by omega, by go_num, hd⟩
              case round =>
                clear hd
                obtain ⟨k, hk, rfl, hd⟩ := hrel
                have gr := drewN_grown hd.out none
                by_cases hkM : k < M
                · obtain ⟨b, off, rfl, -, cx, cy, -⟩ := (U2.out.grown gr).at (M + k) (by omega)
                  rw [HOUT.out (M + k) (by omega), show M + k - M = k by omega] at cx cy
                  rw [OF.out k hkM] at cx
                  have i0 : (0 : Int) ≤ (M : Int) + (k : Int) := by omega
                  have i1 : (M : Int) + (k : Int) < 2 * (M : Int) := by omega
                  have i2 : ((M : Int) + (k : Int)).toNat = M + k := by omega
                  by_cases hk0 : k = 0
                  · subst hk0
                    rw [Nat.add_zero] at cx cy
                    have e0 : (M : Int) + ((0 : Nat) : Int) = (M : Int) := by omega
                    rw [e0]
                    have j0 : (0 : Int) ≤ (M : Int) := by omega
                    have j1 : (M : Int) < 2 * (M : Int) := by omega
                    clear gr i0 i1 i2 e0
                    go_wp2_with fail
                    go_quiet (fail)
                    go_wp2
                    go_roundw
                    case rel => exact ⟨0 + 1, by omega, by go_num, drewN_more hd _⟩
                    case measure => simp [intOf]; omega
                  · obtain ⟨b', off', e1, -, -, cz, -⟩ := (U2.out.grown gr).at (M + k - 1) (by omega)
                    simp only [Option.some.injEq, Addr.mk.injEq, and_true] at e1
                    obtain ⟨rfl, rfl⟩ := e1
                    rw [HOUT.out (M + k - 1) (by omega), show M + k - 1 - M = k - 1 by omega] at cz
                    have SRT := sorted_at OS.out (i := k - 1) (by rw [OL.out]; omega)
                    rw [show k - 1 + 1 = k by omega] at SRT
                    obtain ⟨y, hy⟩ : ∃ y, (O.getD k f0).2.1 = y := ⟨_, rfl⟩
                    obtain ⟨z, hz⟩ : ∃ z, (O.getD (k - 1) f0).2.1 = z := ⟨_, rfl⟩
                    rw [hy] at cy SRT
                    rw [hz] at cz SRT
                    have i3 : (M : Int) < (M : Int) + (k : Int) := by omega
                    have i4 : (0 : Int) ≤ (M : Int) + (k : Int) - 1 := by omega
                    have i5 : (M : Int) + (k : Int) - 1 < 2 * (M : Int) := by omega
                    have i6 : ((M : Int) + (k : Int) - 1).toNat = M + k - 1 := by omega
                    have i7 := IntWalk.i64_in ((M : Int) + (k : Int) - 1) (by omega)
                    have i8 : ¬ y < z := by omega
                    have i9 : decide ((M : Int) < (M : Int) + (k : Int)) = true := by simpa using i3
                    have iA : (0 : Int) < (k : Int) := by omega
                    have iB : decide ((0 : Int) < (k : Int)) = true := by simpa using iA
                    clear gr hy hz SRT
                    go_wp2_with fail
                    go_quiet (fail)
                    go_wp2
                    go_roundw
                    case rel => exact ⟨k + 1, by omega, by go_num, drewN_more hd _⟩
                    case measure => simp [intOf]; omega
                · have i1 : ¬ (M : Int) + (k : Int) < 2 * (M : Int) := by omega
                  have GG := Lib.hid (grown_trans G4.out gr)
                  have ee : (2 * (M : Int) == 2 * (M : Int)) = true := by simp
                  clear gr
                  go_wp2
                  go_ret
                  exact ⟨rfl, GG.out⟩
end Go.Proofs.Ytolifggjblfobaa
