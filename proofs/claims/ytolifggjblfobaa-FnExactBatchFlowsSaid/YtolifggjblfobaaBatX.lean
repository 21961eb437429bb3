/- The walks of FnBatchAlike, FnBatchName, FnBatchOther. -/
import Derived.Test.YtolifggjblfobaaDrawB
import Derived.Test.YtolifggjblfobaaBatL
import Derived.Test.YtolifggjblfobaaViewSm
import Derived.WalkKit
import Derived.Lib.Hide
import Derived.Deep.QuietTactic
import Derived.BigQuiet
namespace Go.Proofs.Ytolifggjblfobaa
open Go.RowKit
theorem batch_wf {ss rs : List Int} {c : Int} : Wf (batchL ss rs c) := by
  by_cases h : BatchP ss rs c
  · rw [batchL_yes h]
    intro i hi
    have hm := g_mem hi
    obtain ⟨y, hy⟩ : ∃ y, (batchR ss rs c).getD i f0 = y := ⟨_, rfl⟩
    rw [hy] at hm ⊢
    have := batch_names hm h.1.2.2
    have := h.2.1
    have := h.2.2.2
    omega
  · rw [batchL_no h]; intro i hi; simp at hi
theorem batch_seen {ss rs rs' : List Int} {c c' : Int} (h : BatchP ss rs c) (h' : BatchP ss rs' c') : SameP (batchL ss rs c) (batchL ss rs' c') ↔ ∀ q : Nat, q < 8 → cntI rs (q : Int) = cntI rs' (q : Int) := by
  rw [batchL_yes h, batchL_yes h']
  exact ⟨fun e => (batch_same h h').1 e.2.2, fun e => ⟨batch_valid h, batch_valid h', (batch_same h h').2 e⟩⟩
set_option maxHeartbeats 4000000 in
theorem fnBatchName_walk (ao : Option Addr) (n cap : Nat) (bo : Option Addr) (m cap' : Nat) (w : World) (h1 : CodeAt w ao n cap) (h2 : CodeAt w bo m cap') :
    Calls Try.prog 16 #[.slice ao n cap, .slice bo m cap'] w fun e w' => e = .returned (.bool true) ∧ w.grownBy w' none := by
  have hm := h2.max
  have hmc := h2.le
  by_cases a : (1048576 : Int) < n
  · go_enter Try.func16, Try.ntmps16
    go_wp2
    go_ret
    exact ⟨rfl, grown_refl _ _⟩
  by_cases b : (1048576 : Int) < m
  · go_enter Try.func16, Try.ntmps16
    go_wp2
    go_ret
    exact ⟨rfl, grown_refl _ _⟩
  · go_enter Try.func16, Try.ntmps16
    go_wp2_with fail
    refine (drawBatchFlows_any _ _ _ _ h1).mono ?_
    rintro e w1 ⟨ss, rs, c, a1, c1, a1', c1', rfl, ls, lr, hc0, hc1, t1, t1', g1⟩
    obtain ⟨N, hN⟩ : ∃ N, ss.length = N := ⟨_, rfl⟩
    obtain ⟨M, hM⟩ : ∃ M, rs.length = M := ⟨_, rfl⟩
    rw [hN] at t1 ls ⊢
    rw [hM] at t1' lr ⊢
    go_wp2_with fail
    refine (batchFlows_any _ _ _ _ ss _ _ _ rs c t1 t1' (by omega) (by omega)).mono ?_
    rintro e w2 ⟨v2, rfl, o2, g2⟩
    obtain ⟨a2, c2, rfl, t2⟩ := OwnF.shape o2
    go_wp2_with fail
    refine (batchFlowsS_any _ _ _ _ ss _ _ _ rs c (t1.grown g2) (t1'.grown g2) (by omega) (by omega)).mono ?_
    rintro e w3 ⟨v3, rfl, o3, g3⟩
    obtain ⟨a3, c3, rfl, t3⟩ := OwnF.shape o3
    obtain ⟨K, hK⟩ : ∃ K, (batchL ss rs c).length = K := ⟨_, rfl⟩
    rw [hK] at t2 t3 o2 ⊢
    have HN := Lib.hid hN
    have HM := Lib.hid hM
    have T1 := Lib.hid ((t1.grown g2).grown g3)
    have T1' := Lib.hid ((t1'.grown g2).grown g3)
    have T2 := Lib.hid (t2.grown g3)
    have W2 := Lib.hid (OwnF.grown o2 g3)
    have T3 := Lib.hid t3
    have G3 := Lib.hid (grown_trans g1 (grown_trans g2 g3))
    have HK := Lib.hid hK
    clear o2 o3 t1 t1' t2 t3 g1 g2 g3 hK hN hM
    by_cases hK0 : K = 0
    case pos =>
      subst hK0
      go_wp2_with fail
      refine (sameFlows_any _ _ _ _ (batchL ss rs c) _ _ _ (batchL ss rs c) T2.out T3.out).mono ?_
      rintro e w4 ⟨rfl, d, rfl⟩
      rw [pb_true (p := batchL ss rs c = batchL ss rs c) rfl]
      go_wp2_with fail
      refine (sameFlows_any _ _ _ _ (batchL ss rs c) _ _ _ (batchL ss rs c) (T2.out.grown (grown_drewN _ d _)) (T3.out.grown (grown_drewN _ d _))).mono ?_
      rintro e w5 ⟨rfl, d2, rfl⟩
      rw [pb_true (p := batchL ss rs c = batchL ss rs c) rfl]
      go_wp2_with fail
      go_ret
      exact ⟨rfl, gDrewN G3.out _⟩
    case neg =>
      have hP : BatchP ss rs c := by
        refine Classical.byContradiction fun e => hK0 ?_
        rw [← HK.out, batchL_no e]; rfl
      have HP := Lib.hid hP
      have hMN : M = N := by have := hP.1.2.2; have := HN.out; have := HM.out; omega
      subst hMN
      have hKN : K = 2 * M := by have := batchR_len hP; rw [← batchL_yes hP, HK.out, HN.out] at this; exact this
      have HB := Lib.hid (batchL_yes hP)
      have hM8 : M ≤ 8 := by have := hP.2.1; have := HN.out; omega
      have hM1 : 1 ≤ M := by omega
      have k0 : ((K : Int) == 0) = false := by simp; omega
      obtain ⟨L, hL⟩ : ∃ L, batchL ss rs c = L := ⟨_, rfl⟩
      rw [hL] at T2 T3 W2 HB HK
      have HLL := Lib.hid hL
      subst hKN
      have kz : ((2 * (M : Int)) == 0) = false := by simp; omega
      clear hP hL
      go_wp2_with fail
      refine (sameFlows_any _ _ _ _ L _ _ _ L T2.out T3.out).mono ?_
      rintro e w4 ⟨rfl, d, hd⟩
      rw [pb_true (p := L = L) rfl]
      have g4 : w3.grownBy w4 none := by rw [hd]; exact grown_drewN _ _ _
      have I1 := Lib.hid (T1.out.grown g4)
      have I2 := Lib.hid (T1'.out.grown g4)
      have U2 := Lib.hid (T2.out.grown g4)
      have W4 := Lib.hid (OwnF.grown W2.out g4)
      have U3 := Lib.hid (T3.out.grown g4)
      have G4 := Lib.hid (grown_trans G3.out g4)
      clear hd g4 T1 T1' T2 T3 W2 G3
      obtain ⟨r, hr⟩ : ∃ r : Nat, (m : Int) % 900 = (r : Int) := ⟨m % 900, by omega⟩
      have hr9 : r < 900 := by omega
      have hrt : (m : Int).tmod 900 = (r : Int) := by rw [Int.tmod_eq_emod_of_nonneg (by omega)]; exact hr
      have HP2 := Lib.hid (show BatchP ss rs (r : Int) from ⟨HP.out.1, HP.out.2.1, by omega, by omega⟩)
      have SE := Lib.hid ((batch_seen HP.out HP2.out).2 fun q _ => rfl)
      rw [HLL.out] at SE
      go_wp2_with fail
      refine (batchFlows_any _ _ _ _ ss _ _ _ rs (r : Int) I1.out I2.out (by omega) (by omega)).mono ?_
      rintro e w5 ⟨v5, rfl, o5, g5⟩
      obtain ⟨a5, c5, rfl, t5⟩ := OwnF.shape o5
      have T5 := Lib.hid t5
      have U5 := Lib.hid (U2.out.grown g5)
      have G5 := Lib.hid (grown_trans G4.out g5)
      have WL := Lib.hid (show Wf L by rw [← HLL.out]; exact batch_wf)
      clear o5 t5 g5
      go_wp2_with fail
      refine (viewSame_any _ _ _ _ L _ _ _ (batchL ss rs (r : Int)) U5.out T5.out WL.out batch_wf).mono ?_
      rintro e w6 ⟨rfl, g6⟩
      rw [pb_true SE.out]
      go_wp2_with fail
      go_ret
      exact ⟨rfl, grown_trans G5.out g6⟩
/-- one entry changed -/
theorem cntI_set (xs : List Int) (i : Nat) (x r : Int) (h : i < xs.length) : cntI (xs.set i x) r + (if xs.getD i 0 = r then 1 else 0) = cntI xs r + (if x = r then 1 else 0) := by
  unfold cntI
  induction xs generalizing i with
  | nil => simp at h
  | cons y t ih =>
    cases i with
    | zero =>
      simp only [List.set_cons_zero, List.countP_cons, List.getD_cons_zero, decide_eq_true_eq]
      omega
    | succ i =>
      have := ih i (by simpa using h)
      simp only [List.set_cons_succ, List.countP_cons, List.getD_cons_succ, decide_eq_true_eq]
      omega
theorem cntI_swap (xs : List Int) (i j : Nat) (r : Int) (hi : i < xs.length) (hj : j < xs.length) : cntI ((xs.set i (xs.getD j 0)).set j (xs.getD i 0)) r = cntI xs r := by
  have h1 := cntI_set xs i (xs.getD j 0) r hi
  have h2 := cntI_set (xs.set i (xs.getD j 0)) j (xs.getD i 0) r (by rw [List.length_set]; exact hj)
  have e : (xs.set i (xs.getD j 0)).getD j 0 = xs.getD j 0 := by
    rw [List.getD_eq_getElem?_getD, List.getElem?_set]
    by_cases e : i = j
    · subst e; rw [if_pos rfl, if_pos hj]; rfl
    · rw [if_neg e, ← List.getD_eq_getElem?_getD]
  rw [e] at h2
  omega
theorem names_set {xs : List Int} (h : NamesP xs) (i : Nat) {x : Int} (h0 : 0 ≤ x) (h7 : x ≤ 7) : NamesP (xs.set i x) := by
  intro j hj
  rw [List.length_set] at hj
  rw [List.getD_eq_getElem?_getD, List.getElem?_set]
  by_cases e : i = j
  · subst e; rw [if_pos rfl, if_pos hj]; exact ⟨h0, h7⟩
  · rw [if_neg e, ← List.getD_eq_getElem?_getD]; exact h j hj
/-- a slice lies in blocks below B, or the block is at least B: written there, it reads as before -/
theorem ints_far {w w' : World} {ao : Option Addr} {n cap g : Nat} {xs : List Int} (h : IntsAt w ao n cap xs) (hg : w.grownBy w' (some g)) (hr : ∀ a, ao = some a → a.block ≠ g) : IntsAt w' ao n cap xs :=
  RowAt.row h hg (fun a ea => by simpa using hr a ea)
set_option maxHeartbeats 4000000 in
theorem fnBatchAlike_walk (ao : Option Addr) (n cap : Nat) (bo : Option Addr) (m cap' : Nat) (w : World) (h1 : CodeAt w ao n cap) (h2 : CodeAt w bo m cap') :
    Calls Try.prog 15 #[.slice ao n cap, .slice bo m cap'] w fun e w' => e = .returned (.bool true) ∧ w.grownBy w' none := by
  have hm := h2.max
  have hmc := h2.le
  by_cases a : (1048576 : Int) < n
  · go_enter Try.func15, Try.ntmps15
    go_wp2
    go_ret
    exact ⟨rfl, grown_refl _ _⟩
  by_cases b : (1048576 : Int) < m
  · go_enter Try.func15, Try.ntmps15
    go_wp2
    go_ret
    exact ⟨rfl, grown_refl _ _⟩
  · go_enter Try.func15, Try.ntmps15
    go_wp2_with fail
    refine (drawBatchFlows_any _ _ _ _ h1).mono ?_
    rintro e w1 ⟨ss, rs, c, a1, c1, a1', c1', rfl, ls, lr, hc0, hc1, t1, t1', g1⟩
    obtain ⟨N, hN⟩ : ∃ N, ss.length = N := ⟨_, rfl⟩
    obtain ⟨M, hM⟩ : ∃ M, rs.length = M := ⟨_, rfl⟩
    rw [hN] at t1 ls ⊢
    rw [hM] at t1' lr ⊢
    go_wp2_with fail
    refine (batchFlows_any _ _ _ _ ss _ _ _ rs c t1 t1' (by omega) (by omega)).mono ?_
    rintro e w2 ⟨v2, rfl, o2, g2⟩
    obtain ⟨a2, c2, rfl, t2⟩ := OwnF.shape o2
    go_wp2_with fail
    refine (batchFlowsS_any _ _ _ _ ss _ _ _ rs c (t1.grown g2) (t1'.grown g2) (by omega) (by omega)).mono ?_
    rintro e w3 ⟨v3, rfl, o3, g3⟩
    obtain ⟨a3, c3, rfl, t3⟩ := OwnF.shape o3
    obtain ⟨K, hK⟩ : ∃ K, (batchL ss rs c).length = K := ⟨_, rfl⟩
    rw [hK] at t2 t3 o2 ⊢
    have HN := Lib.hid hN
    have HM := Lib.hid hM
    have T1 := Lib.hid ((t1.grown g2).grown g3)
    have T1' := Lib.hid ((t1'.grown g2).grown g3)
    have T2 := Lib.hid (t2.grown g3)
    have W2 := Lib.hid (OwnF.grown o2 g3)
    have T3 := Lib.hid t3
    have G3 := Lib.hid (grown_trans g1 (grown_trans g2 g3))
    have HK := Lib.hid hK
    clear o2 o3 t1 t1' t2 t3 g1 g2 g3 hK hN hM
    by_cases hK0 : K = 0
    case pos =>
      subst hK0
      go_wp2_with fail
      refine (sameFlows_any _ _ _ _ (batchL ss rs c) _ _ _ (batchL ss rs c) T2.out T3.out).mono ?_
      rintro e w4 ⟨rfl, d, rfl⟩
      rw [pb_true (p := batchL ss rs c = batchL ss rs c) rfl]
      go_wp2_with fail
      refine (sameFlows_any _ _ _ _ (batchL ss rs c) _ _ _ (batchL ss rs c) (T2.out.grown (grown_drewN _ d _)) (T3.out.grown (grown_drewN _ d _))).mono ?_
      rintro e w5 ⟨rfl, d2, rfl⟩
      rw [pb_true (p := batchL ss rs c = batchL ss rs c) rfl]
      go_wp2_with fail
      go_ret
      exact ⟨rfl, gDrewN G3.out _⟩
    case neg =>
      have hP : BatchP ss rs c := by
        refine Classical.byContradiction fun e => hK0 ?_
        rw [← HK.out, batchL_no e]; rfl
      have HP := Lib.hid hP
      have hMN : M = N := by have := hP.1.2.2; have := HN.out; have := HM.out; omega
      subst hMN
      have hKN : K = 2 * M := by have := batchR_len hP; rw [← batchL_yes hP, HK.out, HN.out] at this; exact this
      have HB := Lib.hid (batchL_yes hP)
      have hM8 : M ≤ 8 := by have := hP.2.1; have := HN.out; omega
      have hM1 : 1 ≤ M := by omega
      have k0 : ((K : Int) == 0) = false := by simp; omega
      obtain ⟨L, hL⟩ : ∃ L, batchL ss rs c = L := ⟨_, rfl⟩
      rw [hL] at T2 T3 W2 HB HK
      have HLL := Lib.hid hL
      subst hKN
      have kz : ((2 * (M : Int)) == 0) = false := by simp; omega
      clear hP hL
      go_wp2_with fail
      refine (sameFlows_any _ _ _ _ L _ _ _ L T2.out T3.out).mono ?_
      rintro e w4 ⟨rfl, d, hd⟩
      rw [pb_true (p := L = L) rfl]
      have g4 : w3.grownBy w4 none := by rw [hd]; exact grown_drewN _ _ _
      have I1 := Lib.hid (T1.out.grown g4)
      have I2 := Lib.hid (T1'.out.grown g4)
      have U2 := Lib.hid (T2.out.grown g4)
      have W4 := Lib.hid (OwnF.grown W2.out g4)
      have U3 := Lib.hid (T3.out.grown g4)
      have G4 := Lib.hid (grown_trans G3.out g4)
      clear hd g4 T1 T1' T2 T3 W2 G3
      have d0 : M ≠ 0 := by omega
      have d1 : ((M : Int) == 0) = false := by simp; omega
      obtain ⟨i, hi⟩ : ∃ i : Nat, m % M = i := ⟨_, rfl⟩
      obtain ⟨m8, hm8⟩ : ∃ m8 : Nat, m / 8 = m8 := ⟨_, rfl⟩
      obtain ⟨j, hj⟩ : ∃ j : Nat, m8 % M = j := ⟨_, rfl⟩
      have hiM : i < M := by rw [← hi]; exact Nat.mod_lt _ (by omega)
      have hjM : j < M := by rw [← hj]; exact Nat.mod_lt _ (by omega)
      have e1 : (m : Int) % (M : Int) = (i : Int) := by rw [← hi]; exact (Int.natCast_emod m M).symm
      have e2 : (m : Int).tmod (M : Int) = (i : Int) := by rw [Int.tmod_eq_emod_of_nonneg (by omega)]; exact e1
      have q1 : (m : Int) / 8 = (m8 : Int) := by omega
      have q2 : (m : Int).tdiv 8 = (m8 : Int) := by rw [Int.tdiv_eq_ediv_of_nonneg (by omega)]; exact q1
      have e3 : (m8 : Int) % (M : Int) = (j : Int) := by rw [← hj]; exact (Int.natCast_emod m8 M).symm
      have e4 : (m8 : Int).tmod (M : Int) = (j : Int) := by rw [Int.tmod_eq_emod_of_nonneg (by omega)]; exact e3
      have H8 := Lib.hid hm8
      clear hm8
      have HI := Lib.hid hi
      have HJ := Lib.hid hj
      clear hi hj
      have FAR : Hid ((∀ a, a1 = some a → a.block < w4.heap.size) ∧ (∀ a, a1' = some a → a.block < w4.heap.size) ∧ (∀ a, a2 = some a → a.block < w4.heap.size)) := Lib.hid (by
        refine ⟨fun a e => ?_, fun a e => ?_, fun a e => ?_⟩
        · obtain ⟨b, off, e2, hb, _⟩ := IntsAt.addr I1.out (by omega); rw [e] at e2; simp only [Option.some.injEq] at e2; subst e2; exact hb
        · obtain ⟨b, off, e2, hb, _⟩ := IntsAt.addr I2.out (by omega); rw [e] at e2; simp only [Option.some.injEq] at e2; subst e2; exact hb
        · obtain ⟨b, off, e2, hb, _⟩ := U2.out.at 0 (by omega); rw [e] at e2; simp only [Option.some.injEq] at e2; subst e2; exact hb)
      have P4 := Lib.hid (own_nil w4.heap.size w4 (Nat.le_refl _))
      go_wp2_with (at_builtin; refine app_ints_at rfl (.tmp 58) (.tmp 59) rfl P4.out (I2.out.grown (grown_alloc _ _ _)) rfl rfl (by simp) (by rw [HM.out]; simp; omega) ?_; intro v5 w5 o5 g5 s5; refine Hid.out ?_)
      show wpList _ _ _ _ _ _
      rw [List.nil_append] at o5
      have g5' := grown_own (grown_alloc w4 (.cells #[] 3) none) P4.out g5 (Nat.le_refl _)
      have G5 := Lib.hid (grown_trans G4.out g5')
      have J1 := Lib.hid (I1.out.grown g5')
      have J2 := Lib.hid (I2.out.grown g5')
      have V2 := Lib.hid (U2.out.grown g5')
      obtain ⟨ax, cx, rfl, -, -⟩ := OwnI.shape o5
      obtain ⟨g, rfl, -, hBg, hgl, hc, hf, hset⟩ := OwnI.at o5 (by rw [HM.out]; omega)
      rw [HM.out] at hset o5 ⊢
      have XO := Lib.hid o5
      clear o5 g5 s5 P4 I1 I2 U2
      obtain ⟨b, off, e7, -, ca⟩ := IntsAt.addr J2.out (by omega)
      have cj := ca j hjM
      obtain ⟨x, hx⟩ : ∃ x, rs.getD j 0 = x := ⟨_, rfl⟩
      obtain ⟨y, hy⟩ : ∃ y, rs.getD i 0 = y := ⟨_, rfl⟩
      rw [hx] at cj
      subst e7
      have ci0 := hc i (by rw [HM.out]; exact hiM)
      have fi0 := hf i
      have gs := grown_set w5 g i (.int .i64 x)
      have hbg : b ≠ g := by have := FAR.out.2.1 _ rfl; simp only at this; omega
      have cI : (w5.setCell ⟨g, i, none⟩ (.int .i64 x)).cell? ⟨b, off + i, none⟩ = some (.int .i64 y) := by
        have := ca i hiM
        rw [hy] at this
        exact gs.cell this (by simpa using hbg)
      have o6 := hset i x
      have o6' := o6
      obtain ⟨g', e8, -, -, -, hc', hf', hset'⟩ := OwnI.at o6' (by rw [List.length_set, HM.out]; omega)
      simp only [Option.some.injEq, Addr.mk.injEq, and_true] at e8
      subst e8
      have cj0 := hc' j (by rw [List.length_set, HM.out]; exact hjM)
      have fj0 := hf' j
      have o7 := hset' j y
      have gs2 := grown_trans gs (grown_set (w5.setCell ⟨g, i, none⟩ (.int .i64 x)) g j (.int .i64 y))
      have i0 : (0 : Int) ≤ (i : Int) := by omega
      have i1 : (i : Int) < M := by omega
      have j0 : (0 : Int) ≤ (j : Int) := by omega
      have j1 : (j : Int) < M := by omega
      have K1 := Lib.hid (ints_far J1.out gs2 (fun a e => by have := FAR.out.1 a e; omega))
      have K2 := Lib.hid (V2.out.apart gs2 (fun a e => by have := FAR.out.2.2 a e; simp; omega))
      have GX := Lib.hid (gRow G5.out gs2 (fun k hk e => by simp at e; have := G4.out.size; omega))
      have O7 := Lib.hid o7
      obtain ⟨xs, hxs⟩ : ∃ xs, (rs.set i x).set j y = xs := ⟨_, rfl⟩
      have hsw : ∀ q : Nat, cntI xs (q : Int) = cntI rs (q : Int) := fun q => by
        rw [← hxs, ← hx, ← hy]; exact cntI_swap rs i j (q : Int) (by rw [HM.out]; exact hiM) (by rw [HM.out]; exact hjM)
      have hxl : xs.length = M := by rw [← hxs, List.length_set, List.length_set]; exact HM.out
      have bx := HP.out.1.2.1 j (by rw [HM.out]; exact hjM)
      have by_ := HP.out.1.2.1 i (by rw [HM.out]; exact hiM)
      rw [hx] at bx
      rw [hy] at by_
      have HP2 := Lib.hid (show BatchP ss xs c from ⟨⟨HP.out.1.1, by rw [← hxs]; exact names_set (names_set HP.out.1.2.1 i bx.1 bx.2) j by_.1 by_.2, by rw [hxl]; exact HN.out⟩, HP.out.2⟩)
      rw [hxs] at O7
      have SE := Lib.hid ((batch_seen HP.out HP2.out).2 fun q _ => (hsw q).symm)
      rw [HLL.out] at SE
      have XL := Lib.hid hxl
      have WL := Lib.hid (show Wf L by rw [← HLL.out]; exact batch_wf)
      clear o6 o6' o7 hc hc' hf hf' hset hset' gs gs2 hsw hxl bx by_ hx hy hxs ca J1 V2 XO hbg
      go_wp2_with fail
      refine (batchFlows_any _ _ _ _ ss _ _ _ xs c K1.out O7.out.ints.1 (by omega) (by omega)).mono ?_
      rintro e w8 ⟨v8, rfl, o8, g8⟩
      obtain ⟨a8, c8, rfl, t8⟩ := OwnF.shape o8
      have T8 := Lib.hid t8
      have U8 := Lib.hid (K2.out.grown g8)
      have G8 := Lib.hid (grown_trans GX.out g8)
      clear o8 t8 g8
      go_wp2_with fail
      refine (viewSame_any _ _ _ _ L _ _ _ (batchL ss xs c) U8.out T8.out WL.out batch_wf).mono ?_
      rintro e w9 ⟨rfl, g9⟩
      rw [pb_true SE.out]
      go_wp2_with fail
      go_ret
      exact ⟨rfl, grown_trans G8.out g9⟩
set_option maxHeartbeats 4000000 in
theorem fnBatchOther_walk (ao : Option Addr) (n cap : Nat) (bo : Option Addr) (m cap' : Nat) (w : World) (h1 : CodeAt w ao n cap) (h2 : CodeAt w bo m cap') :
    Calls Try.prog 17 #[.slice ao n cap, .slice bo m cap'] w fun e w' => e = .returned (.bool true) ∧ w.grownBy w' none := by
  have hm := h2.max
  have hmc := h2.le
  by_cases a : (1048576 : Int) < n
  · go_enter Try.func17, Try.ntmps17
    go_wp2
    go_ret
    exact ⟨rfl, grown_refl _ _⟩
  by_cases b : (1048576 : Int) < m
  · go_enter Try.func17, Try.ntmps17
    go_wp2
    go_ret
    exact ⟨rfl, grown_refl _ _⟩
  · go_enter Try.func17, Try.ntmps17
    go_wp2_with fail
    refine (drawBatchFlows_any _ _ _ _ h1).mono ?_
    rintro e w1 ⟨ss, rs, c, a1, c1, a1', c1', rfl, ls, lr, hc0, hc1, t1, t1', g1⟩
    obtain ⟨N, hN⟩ : ∃ N, ss.length = N := ⟨_, rfl⟩
    obtain ⟨M, hM⟩ : ∃ M, rs.length = M := ⟨_, rfl⟩
    rw [hN] at t1 ls ⊢
    rw [hM] at t1' lr ⊢
    go_wp2_with fail
    refine (batchFlows_any _ _ _ _ ss _ _ _ rs c t1 t1' (by omega) (by omega)).mono ?_
    rintro e w2 ⟨v2, rfl, o2, g2⟩
    obtain ⟨a2, c2, rfl, t2⟩ := OwnF.shape o2
    go_wp2_with fail
    refine (batchFlowsS_any _ _ _ _ ss _ _ _ rs c (t1.grown g2) (t1'.grown g2) (by omega) (by omega)).mono ?_
    rintro e w3 ⟨v3, rfl, o3, g3⟩
    obtain ⟨a3, c3, rfl, t3⟩ := OwnF.shape o3
    obtain ⟨K, hK⟩ : ∃ K, (batchL ss rs c).length = K := ⟨_, rfl⟩
    rw [hK] at t2 t3 o2 ⊢
    have HN := Lib.hid hN
    have HM := Lib.hid hM
    have T1 := Lib.hid ((t1.grown g2).grown g3)
    have T1' := Lib.hid ((t1'.grown g2).grown g3)
    have T2 := Lib.hid (t2.grown g3)
    have W2 := Lib.hid (OwnF.grown o2 g3)
    have T3 := Lib.hid t3
    have G3 := Lib.hid (grown_trans g1 (grown_trans g2 g3))
    have HK := Lib.hid hK
    clear o2 o3 t1 t1' t2 t3 g1 g2 g3 hK hN hM
    by_cases hK0 : K = 0
    case pos =>
      subst hK0
      go_wp2_with fail
      refine (sameFlows_any _ _ _ _ (batchL ss rs c) _ _ _ (batchL ss rs c) T2.out T3.out).mono ?_
      rintro e w4 ⟨rfl, d, rfl⟩
      rw [pb_true (p := batchL ss rs c = batchL ss rs c) rfl]
      go_wp2_with fail
      refine (sameFlows_any _ _ _ _ (batchL ss rs c) _ _ _ (batchL ss rs c) (T2.out.grown (grown_drewN _ d _)) (T3.out.grown (grown_drewN _ d _))).mono ?_
      rintro e w5 ⟨rfl, d2, rfl⟩
      rw [pb_true (p := batchL ss rs c = batchL ss rs c) rfl]
      go_wp2_with fail
      go_ret
      exact ⟨rfl, gDrewN G3.out _⟩
    case neg =>
      have hP : BatchP ss rs c := by
        refine Classical.byContradiction fun e => hK0 ?_
        rw [← HK.out, batchL_no e]; rfl
      have HP := Lib.hid hP
      have hMN : M = N := by have := hP.1.2.2; have := HN.out; have := HM.out; omega
      subst hMN
      have hKN : K = 2 * M := by have := batchR_len hP; rw [← batchL_yes hP, HK.out, HN.out] at this; exact this
      have HB := Lib.hid (batchL_yes hP)
      have hM8 : M ≤ 8 := by have := hP.2.1; have := HN.out; omega
      have hM1 : 1 ≤ M := by omega
      have k0 : ((K : Int) == 0) = false := by simp; omega
      obtain ⟨L, hL⟩ : ∃ L, batchL ss rs c = L := ⟨_, rfl⟩
      rw [hL] at T2 T3 W2 HB HK
      have HLL := Lib.hid hL
      subst hKN
      have kz : ((2 * (M : Int)) == 0) = false := by simp; omega
      clear hP hL
      go_wp2_with fail
      refine (sameFlows_any _ _ _ _ L _ _ _ L T2.out T3.out).mono ?_
      rintro e w4 ⟨rfl, d, hd⟩
      rw [pb_true (p := L = L) rfl]
      have g4 : w3.grownBy w4 none := by rw [hd]; exact grown_drewN _ _ _
      have I1 := Lib.hid (T1.out.grown g4)
      have I2 := Lib.hid (T1'.out.grown g4)
      have U2 := Lib.hid (T2.out.grown g4)
      have W4 := Lib.hid (OwnF.grown W2.out g4)
      have U3 := Lib.hid (T3.out.grown g4)
      have G4 := Lib.hid (grown_trans G3.out g4)
      clear hd g4 T1 T1' T2 T3 W2 G3
      have d0 : M ≠ 0 := by omega
      have d1 : ((M : Int) == 0) = false := by simp; omega
      obtain ⟨i, hi⟩ : ∃ i : Nat, m % M = i := ⟨_, rfl⟩
      have hiM : i < M := by rw [← hi]; exact Nat.mod_lt _ (by omega)
      have e1 : (m : Int) % (M : Int) = (i : Int) := by rw [← hi]; exact (Int.natCast_emod m M).symm
      have e2 : (m : Int).tmod (M : Int) = (i : Int) := by rw [Int.tmod_eq_emod_of_nonneg (by omega)]; exact e1
      obtain ⟨s, hs⟩ : ∃ s : Nat, n % 7 = s := ⟨_, rfl⟩
      have hs7 : s < 7 := by omega
      have e3 : (n : Int) % 7 = (s : Int) := by omega
      have e4 : (n : Int).tmod 7 = (s : Int) := by rw [Int.tmod_eq_emod_of_nonneg (by omega)]; exact e3
      clear hi hs
      have FAR : Hid ((∀ a, a1 = some a → a.block < w4.heap.size) ∧ (∀ a, a1' = some a → a.block < w4.heap.size) ∧ (∀ a, a2 = some a → a.block < w4.heap.size)) := Lib.hid (by
        refine ⟨fun a e => ?_, fun a e => ?_, fun a e => ?_⟩
        · obtain ⟨b, off, e2, hb, _⟩ := IntsAt.addr I1.out (by omega); rw [e] at e2; simp only [Option.some.injEq] at e2; subst e2; exact hb
        · obtain ⟨b, off, e2, hb, _⟩ := IntsAt.addr I2.out (by omega); rw [e] at e2; simp only [Option.some.injEq] at e2; subst e2; exact hb
        · obtain ⟨b, off, e2, hb, _⟩ := U2.out.at 0 (by omega); rw [e] at e2; simp only [Option.some.injEq] at e2; subst e2; exact hb)
      have P4 := Lib.hid (own_nil w4.heap.size w4 (Nat.le_refl _))
      go_wp2_with (at_builtin; refine app_ints_at rfl (.tmp 51) (.tmp 52) rfl P4.out (I2.out.grown (grown_alloc _ _ _)) rfl rfl (by simp) (by rw [HM.out]; simp; omega) ?_; intro v5 w5 o5 g5 s5; refine Hid.out ?_)
      show wpList _ _ _ _ _ _
      rw [List.nil_append] at o5
      have g5' := grown_own (grown_alloc w4 (.cells #[] 3) none) P4.out g5 (Nat.le_refl _)
      have G5 := Lib.hid (grown_trans G4.out g5')
      have J1 := Lib.hid (I1.out.grown g5')
      have J2 := Lib.hid (I2.out.grown g5')
      have V2 := Lib.hid (U2.out.grown g5')
      obtain ⟨ax, cx, rfl, -, -⟩ := OwnI.shape o5
      obtain ⟨g, rfl, -, hBg, hgl, hc, hf, hset⟩ := OwnI.at o5 (by rw [HM.out]; omega)
      rw [HM.out] at hset o5 ⊢
      have XO := Lib.hid o5
      clear o5 g5 s5 P4 I1 I2 U2
      obtain ⟨b, off, e7, -, ca⟩ := IntsAt.addr J2.out (by omega)
      have cj := ca i hiM
      have by_ := HP.out.1.2.1 i (by rw [HM.out]; exact hiM)
      have CS := cntI_set rs i
      obtain ⟨y, hy⟩ : ∃ y, rs.getD i 0 = y := ⟨_, rfl⟩
      rw [hy] at cj by_ CS
      obtain ⟨x, hx⟩ : ∃ x, (y + 1 + (s : Int)) % 8 = x := ⟨_, rfl⟩
      have hxt : (y + 1 + (s : Int)).tmod 8 = x := by rw [Int.tmod_eq_emod_of_nonneg (by omega)]; exact hx
      have hx0 : 0 ≤ x ∧ x ≤ 7 ∧ x ≠ y := by omega
      subst e7
      have ci0 := hc i (by rw [HM.out]; exact hiM)
      have fi0 := hf i
      have gs := grown_set w5 g i (.int .i64 x)
      have o6 := hset i x
      have i0 : (0 : Int) ≤ (i : Int) := by omega
      have i1 : (i : Int) < M := by omega
      have K1 := Lib.hid (ints_far J1.out gs (fun a e => by have := FAR.out.1 a e; omega))
      have K2 := Lib.hid (V2.out.apart gs (fun a e => by have := FAR.out.2.2 a e; simp; omega))
      have GX := Lib.hid (gRow G5.out gs (fun k hk e => by simp at e; have := G4.out.size; omega))
      have C1 := CS x y (by rw [HM.out]; exact hiM)
      rw [if_pos rfl, if_neg hx0.2.2] at C1
      have hxl : (rs.set i x).length = M := by rw [List.length_set]; exact HM.out
      have HP2 := Lib.hid (show BatchP ss (rs.set i x) c from ⟨⟨HP.out.1.1, names_set HP.out.1.2.1 i hx0.1 hx0.2.1, by rw [hxl]; exact HN.out⟩, HP.out.2⟩)
      have SE := Lib.hid (show ¬ SameP (batchL ss rs c) (batchL ss (rs.set i x) c) from fun e => by
        have := (batch_seen HP.out HP2.out).1 e y.toNat (by omega)
        rw [show ((y.toNat : Nat) : Int) = y by omega] at this
        omega)
      rw [HLL.out] at SE
      have XL := Lib.hid hxl
      have O7 := Lib.hid o6
      have WL := Lib.hid (show Wf L by rw [← HLL.out]; exact batch_wf)
      clear o6 hc hf hset gs C1 CS hxl hy ca J1 V2 XO
      go_wp2_with fail
      refine (batchFlows_any _ _ _ _ ss _ _ _ (rs.set i x) c K1.out O7.out.ints.1 (by omega) (by omega)).mono ?_
      rintro e w8 ⟨v8, rfl, o8, g8⟩
      obtain ⟨a8, c8, rfl, t8⟩ := OwnF.shape o8
      have T8 := Lib.hid t8
      have U8 := Lib.hid (K2.out.grown g8)
      have G8 := Lib.hid (grown_trans GX.out g8)
      clear o8 t8 g8
      go_wp2_with fail
      refine (viewSame_any _ _ _ _ L _ _ _ (batchL ss (rs.set i x) c) U8.out T8.out WL.out batch_wf).mono ?_
      rintro e w9 ⟨rfl, g9⟩
      rw [pb_false SE.out]
      go_wp2_with fail
      go_ret
      exact ⟨rfl, grown_trans G8.out g9⟩
end Go.Proofs.Ytolifggjblfobaa
