/- BatchFlows of both. -/
import Derived.Test.YtolifggjblfobaaBatS
import Derived.WalkKit
import Derived.Lib.Hide
import Derived.Deep.QuietTactic
import Derived.BigQuiet
namespace Go.Proofs.Ytolifggjblfobaa
open Go.RowKit
/-- two slices in different blocks -/
def SepF (u v : Value) : Prop := ∀ k, u.ownBlock = some k → v.ownBlock ≠ some k
theorem SepF.symm {u v : Value} (h : SepF u v) : SepF v u := fun k hk e => h k e hk
theorem SepF.step {u v u' : Value} {N : Nat} (h : SepF u v) (hu : u'.ownBlock = u.ownBlock ∨ u'.ownBlock = some N) (hv : ∀ k, v.ownBlock = some k → k < N) : SepF u' v := by
  intro k hk e
  rcases hu with e1 | e1
  · rw [e1] at hk; exact h k hk e
  · rw [e1] at hk
    simp only [Option.some.injEq] at hk
    have := hv k e
    omega
theorem SepF.other {u v : Value} (h : SepF u v) : v.ownBlock = none ∨ v.ownBlock ≠ u.ownBlock := by
  cases hb : v.ownBlock with
  | none => exact .inl rfl
  | some k => exact .inr fun e => h k e.symm hb
theorem rawF_snoc (rs : List Int) (c : Int) (i : Nat) : rawF rs c 0 (i + 1) = rawF rs c 0 i ++ [(-1, rs.getD i 0, c + (i : Int))] := by
  simp [rawF, List.range_succ]
theorem batch_no {ss rs : List Int} {c : Int} {w w' : World} {v : Value} (h : ¬ BatchP ss rs c) (ho : OwnF w.heap.size w' v []) (g : w.grownBy w' none) : FlowPost w (batchL ss rs c) (.returned v) w' :=
  ⟨v, rfl, by rw [batchL_no h]; exact ho, g⟩
set_option maxHeartbeats 4000000 in
theorem batchFlows_any (w : World) (ao : Option Addr) (n cap : Nat) (ss : List Int) (bo : Option Addr) (m cap' : Nat) (rs : List Int) (c : Int) (h : IntsAt w ao n cap ss) (h' : IntsAt w bo m cap' rs) (hn : n ≤ 1048576) (hm : m ≤ 1048576) :
    Calls Try.prog 31 #[.slice ao n cap, .slice bo m cap', .int .i64 c] w (FlowPost w (batchL ss rs c)) := by
  have HS := Lib.hid h.len
  have HR := Lib.hid h'.len
  by_cases e1 : m = n
  case neg =>
    have e1' : ((m : Int) != (n : Int)) = true := by simp; omega
    have NP := Lib.hid (show ¬ BatchP ss rs c from fun e => by have := e.1.2.2; have := HS.out; have := HR.out; omega)
    go_enter Try.func31, Try.ntmps31
    go_wp2
    go_ret
    exact batch_no NP.out (ownF_none _ _) (grown_refl _ _)
  subst e1
  by_cases e2 : (16 : Int) < 2 * (m : Int)
  · have NP := Lib.hid (show ¬ BatchP ss rs c from fun e => by have := e.2.1; have := HS.out; omega)
    go_enter Try.func31, Try.ntmps31
    go_wp2
    go_ret
    exact batch_no NP.out (ownF_none _ _) (grown_refl _ _)
  go_enter Try.func31, Try.ntmps31
  go_wp2_with fail
  refine (areNames_any _ _ _ _ ss h).mono ?_
  rintro e w1 ⟨rfl, rfl⟩
  by_cases e3 : NamesP ss
  case neg =>
    rw [pb_false e3]
    have NP := Lib.hid (show ¬ BatchP ss rs c from fun e => e3 e.1.1)
    go_wp2_with fail
    go_ret
    exact batch_no NP.out (ownF_none _ _) (grown_refl _ _)
  rw [pb_true e3]
  go_wp2_with fail
  refine (areNames_any _ _ _ _ rs h').mono ?_
  rintro e w1 ⟨rfl, rfl⟩
  by_cases e4 : NamesP rs
  case neg =>
    rw [pb_false e4]
    have NP := Lib.hid (show ¬ BatchP ss rs c from fun e => e4 e.1.2.1)
    go_wp2_with fail
    go_ret
    exact batch_no NP.out (ownF_none _ _) (grown_refl _ _)
  rw [pb_true e4]
  go_wp2_with fail
  refine (isNumber_any _ _).mono ?_
  rintro e w1 ⟨rfl, rfl⟩
  cases hc : numB c
  case false =>
    have NP := Lib.hid (show ¬ BatchP ss rs c from fun e => by rw [numB_iff.2 e.2.2] at hc; cases hc)
    clear hc
    go_wp2_with fail
    go_ret
    exact batch_no NP.out (ownF_none _ _) (grown_refl _ _)
  case true =>
    have hcb := numB_iff.1 hc
    have BP := Lib.hid (show BatchP ss rs c from ⟨⟨e3, e4, by rw [HS.out, HR.out]⟩, by have := HS.out; omega, hcb⟩)
    clear hc
    obtain ⟨cc, hcc⟩ : ∃ cc : Int, c + (m : Int) = cc := ⟨_, rfl⟩
    have z1 : (w.alloc (.cells #[] 28)).heap.size = w.heap.size + 1 := by simp
    have U0 := Lib.hid ((ownF_nil w.heap.size w (Nat.le_refl _)).grown (grown_alloc (w.alloc (.cells #[] 28)) (.cells #[] 28) none))
    have v0 := ownF_nil w.heap.size (w.alloc (.cells #[] 28)) (by rw [z1]; omega)
    rw [z1] at v0
    have V0 := Lib.hid v0
    have G0 := Lib.hid (gAlloc (grown_alloc w (.cells #[] 28) none) (.cells #[] 28))
    have S0 : Hid (SepF (.slice (some ⟨w.heap.size, 0, none⟩) 0 0) (.slice (some ⟨w.heap.size + 1, 0, none⟩) 0 0)) := Lib.hid fun k hk e => by simp [Value.ownBlock] at hk e; omega
    have H3 := Lib.hid e3
    have H4 := Lib.hid e4
    clear v0 z1 e3 e4
    go_wp2_with fail
    go_loopw [8, 9, 10, 40] (fun u v j q wr => ∃ i : Nat, i ≤ m ∧ q = .int .i64 i ∧ Hid (OwnF w.heap.size wr u (insS ss c i)) ∧ Hid (OwnF w.heap.size wr v (rawF rs cc 0 i)) ∧ Hid (SepF u v) ∧ Hid (w.grownBy wr none)) (fun _ _ _ q _ => m - (intOf q).toNat)
    case atStart => exact ⟨0, by omega, rfl, U0, V0, S0, G0⟩
    case round =>
      clear U0 V0 S0 G0
      obtain ⟨i, hi, rfl, hu, hv, hs, hg⟩ := hrel
      obtain ⟨wo, rfl⟩ : ∃ wo : World, wo = wr := ⟨_, rfl⟩
      by_cases hin : i < m
      · have NU := Lib.hid (insS_step ss c i)
        have NV := Lib.hid (rawF_snoc rs cc i)
        have LU := Lib.hid (insS_len ss c i)
        have LV := Lib.hid (rawF_len rs cc 0 i)
        obtain ⟨b, off, rfl, -, ca⟩ := IntsAt.addr (h.grown hg.out) (by omega)
        obtain ⟨b', off', rfl, hb', cb⟩ := IntsAt.addr (h'.grown hg.out) (by omega)
        have ca0 := ca i hin
        have cb0 := cb i hin
        have xb := H3.out i (by rw [HS.out]; exact hin)
        have yb := H4.out i (by rw [HR.out]; exact hin)
        obtain ⟨x, hx⟩ : ∃ x, ss.getD i 0 = x := ⟨_, rfl⟩
        obtain ⟨y, hy⟩ : ∃ y, rs.getD i 0 = y := ⟨_, rfl⟩
        rw [hx] at ca0 NU xb
        rw [hy] at cb0 NV yb
        have i0 : (0 : Int) ≤ (i : Int) := by omega
        have i1 : (i : Int) < m := by omega
        have HYB := Lib.hid (show IntsAt w (some ⟨b', off', none⟩) m cap' rs from h')
        clear ca cb hx cb0
        go_wp2_with (at_builtin; refine app_flows rfl (.tmp 43) (.tmp 52) rfl (OwnF.grown hu.out (by (repeat (with_reducible (first | refine gDrew ?_ | refine gDrewN ?_ _ | refine gAlloc ?_ _))); exact grown_refl _ _)) rfl rfl (one_flow_at _ _ _ _ _ (by first | rfl | simp)) (grown_trans hg.out (by (repeat (with_reducible (first | refine gDrew ?_ | refine gDrewN ?_ _ | refine gAlloc ?_ _))); exact grown_refl _ _)).size (by rw [LU.out]; simp; omega) ?_; intro v5 w5 o5 g5 s5; refine Hid.out ?_)
        show wpList _ _ _ _ _ _
        have q5 := grownF_own (grown_trans hg.out (by (repeat (with_reducible (first | refine gDrew ?_ | refine gDrewN ?_ _ | refine gAlloc ?_ _))); exact grown_refl _ _)) (OwnF.grown hu.out (by (repeat (with_reducible (first | refine gDrew ?_ | refine gDrewN ?_ _ | refine gAlloc ?_ _))); exact grown_refl _ _)) g5 (Nat.le_refl _)
        have V5 := Lib.hid (OwnF.apart (OwnF.grown hv.out (grown_alloc wo _ _)) g5 hs.out.other)
        have S5 := Lib.hid (SepF.step hs.out s5 (fun k hk => by have := (hv.out.bound k hk).2; simp; omega))
        have O5 := Lib.hid o5
        have G5 := Lib.hid q5
        clear o5 q5 g5 s5 hu hv hs hg ca0
        obtain ⟨b2, off2, e2, -, cb⟩ := IntsAt.addr (h'.grown G5.out) (by omega)
        simp only [Option.some.injEq, Addr.mk.injEq, and_true] at e2
        obtain ⟨rfl, rfl⟩ := e2
        have cb0 := cb i hin
        rw [hy] at cb0
        clear cb hy
        have hcc2 : c + (m : Int) + (i : Int) = cc + (i : Int) := by omega
        go_wp2_with (at_builtin; refine app_flows rfl (.tmp 54) (.tmp 65) rfl (OwnF.grown V5.out (by (repeat (with_reducible (first | refine gDrew ?_ | refine gDrewN ?_ _ | refine gAlloc ?_ _))); exact grown_refl _ _)) rfl rfl (one_flow_at _ _ _ _ _ (by first | rfl | simp)) (grown_trans G5.out (by (repeat (with_reducible (first | refine gDrew ?_ | refine gDrewN ?_ _ | refine gAlloc ?_ _))); exact grown_refl _ _)).size (by rw [LV.out]; simp; omega) ?_; intro v6 w6 o6 g6 s6; refine Hid.out ?_)
        show wpList _ _ _ _ _ _
        have q6 := grownF_own (grown_trans G5.out (by (repeat (with_reducible (first | refine gDrew ?_ | refine gDrewN ?_ _ | refine gAlloc ?_ _))); exact grown_refl _ _)) (OwnF.grown V5.out (by (repeat (with_reducible (first | refine gDrew ?_ | refine gDrewN ?_ _ | refine gAlloc ?_ _))); exact grown_refl _ _)) g6 (Nat.le_refl _)
        have U6 := Lib.hid (OwnF.apart (OwnF.grown O5.out (grown_alloc w5 _ _)) g6 S5.out.symm.other)
        have S6 := Lib.hid (SepF.step S5.out.symm s6 (fun k hk => by have := (O5.out.bound k hk).2; simp; omega)).symm
        have G6 := Lib.hid q6
        have O6 := Lib.hid o6
        clear o6 q6 g6 s6 O5 V5 S5 G5 cb0 hcc2
        go_wp2
        go_roundw
        case rel => exact ⟨i + 1, by omega, by go_num, by rw [NU.out]; exact U6, by rw [NV.out]; exact O6, S6, G6⟩
        case measure => simp [intOf]; omega
      · have hin' : i = m := by omega
        subst hin'
        have hv0 := hv.out
        obtain ⟨va, vc, rfl, -⟩ := OwnF.shape hv0
        rw [rawF_len, Nat.sub_zero] at hv0 ⊢
        have HV := Lib.hid hv0
        have SS := Lib.hid hs.out
        rw [rawF_len, Nat.sub_zero] at SS
        clear hv0 hv hs
        go_wp2_with fail
        refine (sortF_any w.heap.size _ _ _ _ rs cc H4.out HR.out (by omega) HV.out).mono ?_
        rintro e w5 ⟨rfl, o5, g5⟩
        have U5 := Lib.hid (OwnF.apart hu.out g5 SS.out.symm.other)
        have G5 := Lib.hid (grownF_own hg.out HV.out g5 (Nat.le_refl _))
        have O5 := Lib.hid o5
        have LU := Lib.hid (insS_len ss c i)
        have LV := Lib.hid (show (outF rs cc i 8).length = i by exact outF_len cc H4.out i (by rw [HR.out]; omega))
        have LB := Lib.hid (show batchL ss rs c = insS ss c i ++ outF rs cc i 8 by rw [batchL_yes BP.out]; unfold batchR; rw [HS.out, HR.out, hcc])
        clear o5 g5 HV hu hg
        go_wp2_with (at_builtin; refine app_flows_own rfl (.tmp 70) (.tmp 71) rfl U5.out rfl rfl O5.out G5.out.size (by rw [LU.out, LV.out]; omega) ?_; intro v6 w6 o6 g6 s6; refine Hid.out ?_)
        show wpList _ _ _ _ _ _
        have G6 := Lib.hid (grownF_own G5.out U5.out g6 (Nat.le_refl _))
        have O6 := Lib.hid (show OwnF w.heap.size w6 v6 (batchL ss rs c) by rw [LB.out]; exact o6)
        clear o6 g6 s6
        go_wp2
        go_ret
        exact ⟨_, rfl, O6.out, G6.out⟩
set_option maxHeartbeats 4000000 in
theorem batchFlowsS_any (w : World) (ao : Option Addr) (n cap : Nat) (ss : List Int) (bo : Option Addr) (m cap' : Nat) (rs : List Int) (c : Int) (h : IntsAt w ao n cap ss) (h' : IntsAt w bo m cap' rs) (hn : n ≤ 1048576) (hm : m ≤ 1048576) :
    Calls Try.prog 32 #[.slice ao n cap, .slice bo m cap', .int .i64 c] w (FlowPost w (batchL ss rs c)) := by
  have HS := Lib.hid h.len
  have HR := Lib.hid h'.len
  have P0 := Lib.hid (ownF_nil w.heap.size w (Nat.le_refl _))
  have G0 := Lib.hid (grown_alloc w (.cells #[] 28) none)
  have I1 := Lib.hid (h.grown G0.out)
  have I2 := Lib.hid (h'.grown G0.out)
  go_enter Try.func32, Try.ntmps32
  go_wp2_with fail
  refine (l5Names_any _ _ _ _ ss I1.out).mono ?_
  rintro e w1 ⟨rfl, rfl⟩
  by_cases e3 : NamesP ss
  case neg =>
    rw [pb_false e3]
    have NP := Lib.hid (show ¬ BatchP ss rs c from fun e => e3 e.1.1)
    go_wp2_with fail
    go_ret
    exact batch_no NP.out P0.out G0.out
  rw [pb_true e3]
  go_wp2_with fail
  refine (l5Names_any _ _ _ _ rs I2.out).mono ?_
  rintro e w1 ⟨rfl, rfl⟩
  by_cases e4 : NamesP rs
  case neg =>
    rw [pb_false e4]
    have NP := Lib.hid (show ¬ BatchP ss rs c from fun e => e4 e.1.2.1)
    go_wp2_with fail
    go_ret
    exact batch_no NP.out P0.out G0.out
  rw [pb_true e4]
  by_cases e1 : n = m
  case neg =>
    have e1' : ((n : Int) != (m : Int)) = true := by simp; omega
    have NP := Lib.hid (show ¬ BatchP ss rs c from fun e => by have := e.1.2.2; have := HS.out; have := HR.out; omega)
    go_wp2_with fail
    go_ret
    exact batch_no NP.out P0.out G0.out
  subst e1
  by_cases e2 : (16 : Int) < 2 * (n : Int)
  · have NP := Lib.hid (show ¬ BatchP ss rs c from fun e => by have := e.2.1; have := HS.out; omega)
    go_wp2_with fail
    go_ret
    exact batch_no NP.out P0.out G0.out
  go_wp2_with fail
  refine (l6In_any _ _ _ _).mono ?_
  rintro e w1 ⟨rfl, rfl⟩
  cases hc : inB c 0 990
  case false =>
    have NP := Lib.hid (show ¬ BatchP ss rs c from fun e => by rw [inB_iff.2 e.2.2] at hc; cases hc)
    clear hc
    go_wp2_with fail
    go_ret
    exact batch_no NP.out P0.out G0.out
  case true =>
    have hcb := inB_iff.1 hc
    have BP := Lib.hid (show BatchP ss rs c from ⟨⟨e3, e4, by rw [HS.out, HR.out]⟩, by have := HS.out; omega, hcb⟩)
    clear hc
    obtain ⟨cc, hcc⟩ : ∃ cc : Int, c + (n : Int) = cc := ⟨_, rfl⟩
    have H3 := Lib.hid e3
    have H4 := Lib.hid e4
    clear e3 e4
    go_wp2_with fail
    go_loopw [7, 8] (fun u q wr => ∃ i : Nat, i ≤ n ∧ q = .int .i64 i ∧ Hid (OwnF w.heap.size wr u (insS ss c i)) ∧ Hid (w.grownBy wr none)) (fun _ q _ => n - (intOf q).toNat)
    case atStart => exact ⟨0, by omega, rfl, P0, G0⟩
    case round =>
      clear P0 G0 I1 I2
      obtain ⟨i, hi, rfl, hu, hg⟩ := hrel
      obtain ⟨wo, rfl⟩ : ∃ wo : World, wo = wr := ⟨_, rfl⟩
      by_cases hin : i < n
      · have NU := Lib.hid (insS_step ss c i)
        have LU := Lib.hid (insS_len ss c i)
        obtain ⟨b, off, rfl, -, ca⟩ := IntsAt.addr (h.grown hg.out) (by omega)
        have ca0 := ca i hin
        have xb := H3.out i (by rw [HS.out]; exact hin)
        obtain ⟨x, hx⟩ : ∃ x, ss.getD i 0 = x := ⟨_, rfl⟩
        rw [hx] at ca0 NU xb
        have i0 : (0 : Int) ≤ (i : Int) := by omega
        have i1 : (i : Int) < n := by omega
        clear ca hx
        go_wp2_with (at_builtin; refine app_flows rfl (.tmp 45) (.tmp 54) rfl (OwnF.grown hu.out (by (repeat (with_reducible (first | refine gDrew ?_ | refine gDrewN ?_ _ | refine gAlloc ?_ _))); exact grown_refl _ _)) rfl rfl (one_flow_at _ _ _ _ _ (by first | rfl | simp)) (grown_trans hg.out (by (repeat (with_reducible (first | refine gDrew ?_ | refine gDrewN ?_ _ | refine gAlloc ?_ _))); exact grown_refl _ _)).size (by rw [LU.out]; simp; omega) ?_; intro v5 w5 o5 g5 s5; refine Hid.out ?_)
        show wpList _ _ _ _ _ _
        have G5 := Lib.hid (grownF_own (grown_trans hg.out (by (repeat (with_reducible (first | refine gDrew ?_ | refine gDrewN ?_ _ | refine gAlloc ?_ _))); exact grown_refl _ _)) (OwnF.grown hu.out (by (repeat (with_reducible (first | refine gDrew ?_ | refine gDrewN ?_ _ | refine gAlloc ?_ _))); exact grown_refl _ _)) g5 (Nat.le_refl _))
        have O5 := Lib.hid o5
        clear o5 g5 s5 hu hg ca0
        go_wp2
        go_roundw
        case rel => exact ⟨i + 1, by omega, by go_num, by rw [NU.out]; exact O5, G5⟩
        case measure => simp [intOf]; omega
      · have hin' : i = n := by omega
        subst hin'
        have O0 := Lib.hid (show OwnF w.heap.size wo u7 (insS ss c i ++ outF rs cc i 0) by rw [show outF rs cc i 0 = [] from rfl, List.append_nil]; exact hu.out)
        clear hu
        go_wp2_with fail
        go_loopw [7, 9, 10] (fun u q p wr => ∃ r : Nat, r ≤ 8 ∧ q = .int .i64 r ∧ Hid (OwnF w.heap.size wr u (insS ss c i ++ outF rs cc i r)) ∧ Hid (w.grownBy wr none)) (fun _ q _ _ => 8 - (intOf q).toNat)
        case atStart => exact ⟨0, by omega, rfl, O0, hg⟩
        case round =>
          clear O0 hg
          obtain ⟨r, hr, rfl, ho, hg⟩ := hrel
          obtain ⟨wi, rfl⟩ : ∃ wi : World, wi = wr := ⟨_, rfl⟩
          by_cases hr8 : r < 8
          · have O1 := Lib.hid (show OwnF w.heap.size wi u7 (insS ss c i ++ outF rs cc i r ++ selF rs cc r 0) by rw [show selF rs cc r 0 = [] from rfl, List.append_nil]; exact ho.out)
            have hr8' : (r : Int) < 8 := by omega
            have NO := Lib.hid (outF_step rs cc i r)
            clear ho
            go_wp2_with fail
            go_loopw [7, 10] (fun u q wr => ∃ k : Nat, k ≤ i ∧ q = .int .i64 k ∧ Hid (OwnF w.heap.size wr u (insS ss c i ++ outF rs cc i r ++ selF rs cc r k)) ∧ Hid (w.grownBy wr none)) (fun _ q _ => i - (intOf q).toNat)
            case atStart => exact ⟨0, by omega, rfl, O1, hg⟩
            case round =>
              clear O1 hg
              obtain ⟨k, hk, rfl, ho, hg⟩ := hrel
              obtain ⟨wj, rfl⟩ : ∃ wj : World, wj = wr := ⟨_, rfl⟩
              by_cases hki : k < i
              · have NS := Lib.hid (selF_step rs cc r k)
                have LO : Hid ((insS ss c i ++ outF rs cc i r ++ selF rs cc r k).length ≤ 1000000) := Lib.hid (by
                  have a1 := insS_len ss c i
                  have a2 : (selF rs cc r k).length ≤ k := by unfold selF; rw [List.length_map]; exact Nat.le_trans (List.length_filter_le _ _) (by simp)
                  have a3 : (outF rs cc i r).length ≤ i := by
                    have e8 : r + (8 - r) = 8 := by omega
                    have b := outF_len cc H4.out i (by rw [HR.out]; omega)
                    have key : ∀ d, (outF rs cc i r).length ≤ (outF rs cc i (r + d)).length := fun d => by
                      induction d with
                      | zero => exact Nat.le_refl _
                      | succ d ih => rw [← Nat.add_assoc, outF_step, List.length_append]; omega
                    have := key (8 - r)
                    rw [e8] at this
                    omega
                  simp only [List.length_append]; omega)
                obtain ⟨b, off, rfl, -, ca⟩ := IntsAt.addr (h'.grown hg.out) (by omega)
                have ca0 := ca k (by omega)
                obtain ⟨y, hy⟩ : ∃ y, rs.getD k 0 = y := ⟨_, rfl⟩
                rw [hy] at ca0 NS
                have k0 : (0 : Int) ≤ (k : Int) := by omega
                have k1 : (k : Int) < i := by omega
                clear ca hy
                by_cases hyr : y = (r : Int)
                · have NS2 := Lib.hid (show selF rs cc r (k + 1) = selF rs cc r k ++ [(-1, (r : Int), cc + k)] by rw [NS.out, if_pos hyr])
                  have hyb : (y == (r : Int)) = true := by simpa using hyr
                  have hcc2 : c + (i : Int) + (k : Int) = cc + (k : Int) := by omega
                  clear NS
                  go_wp2_with (at_builtin; refine app_flows rfl (.tmp 72) (.tmp 81) rfl (OwnF.grown ho.out (by (repeat (with_reducible (first | refine gDrew ?_ | refine gDrewN ?_ _ | refine gAlloc ?_ _))); exact grown_refl _ _)) rfl rfl (one_flow_at _ _ _ _ _ (by first | rfl | simp)) (grown_trans hg.out (by (repeat (with_reducible (first | refine gDrew ?_ | refine gDrewN ?_ _ | refine gAlloc ?_ _))); exact grown_refl _ _)).size (by have := LO.out; simp only [List.length_singleton]; omega) ?_; intro v5 w5 o5 g5 s5; refine Hid.out ?_)
                  show wpList _ _ _ _ _ _
                  have G5 := Lib.hid (grownF_own (grown_trans hg.out (by (repeat (with_reducible (first | refine gDrew ?_ | refine gDrewN ?_ _ | refine gAlloc ?_ _))); exact grown_refl _ _)) (OwnF.grown ho.out (by (repeat (with_reducible (first | refine gDrew ?_ | refine gDrewN ?_ _ | refine gAlloc ?_ _))); exact grown_refl _ _)) g5 (Nat.le_refl _))
                  have O5 := Lib.hid (show OwnF w.heap.size w5 v5 (insS ss c i ++ outF rs cc i r ++ selF rs cc r (k + 1)) by rw [NS2.out, ← List.append_assoc]; exact o5)
                  clear o5 g5 s5 ho hg ca0 hyb hyr
                  go_wp2
                  go_roundw
                  case rel => exact ⟨k + 1, by omega, by go_num, O5, G5⟩
                  case measure => simp [intOf]; omega
                · have NS2 := Lib.hid (show selF rs cc r (k + 1) = selF rs cc r k by rw [NS.out, if_neg hyr, List.append_nil])
                  have hyb : (y == (r : Int)) = false := by simpa using hyr
                  clear NS
                  go_wp2
                  go_roundw
                  case rel => exact ⟨k + 1, by omega, by go_num, by rw [NS2.out]; exact ho, hg⟩
                  case measure => simp [intOf]; omega
              · have hki' : k = i := by omega
                have O6 := Lib.hid (show OwnF w.heap.size wj u7 (insS ss c i ++ outF rs cc i (r + 1)) by rw [NO.out, ← List.append_assoc, ← hki']; rw [hki']; have := ho.out; rw [hki'] at this; exact this)
                clear ho hki'
                go_wp2
                go_roundw
                case rel => exact ⟨r + 1, by omega, by go_num, O6, hg⟩
                case measure => simp [intOf]; omega
          · have hr8' : r = 8 := by omega
            have O6 := Lib.hid (show OwnF w.heap.size wi u7 (batchL ss rs c) by rw [batchL_yes BP.out]; unfold batchR; rw [HS.out, HR.out, hcc, ← hr8']; exact ho.out)
            subst hr8'
            clear ho
            go_wp2
            go_ret
            exact ⟨_, rfl, O6.out, hg.out⟩
end Go.Proofs.Ytolifggjblfobaa
