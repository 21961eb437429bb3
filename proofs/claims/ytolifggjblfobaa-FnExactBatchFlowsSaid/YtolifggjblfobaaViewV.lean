/- The walk of FnViewSame. -/
import Derived.Test.YtolifggjblfobaaViewX
import Derived.Laws.AppendOwnNone
import Derived.WalkKit
import Derived.Lib.Hide
import Derived.Deep.QuietTactic
import Derived.BigQuiet
import Derived.Deep.RegionHeld3
namespace Go.Proofs.Ytolifggjblfobaa
open Go.RowKit
/-- append of owned flows, of none too -/
theorem app_flows_own {ops : Array Oper} {rest : List Oper} {o : Oper} {a : Act} {Q : Exit → Act → World → Prop} {w : World} (hgd : o.guard = none) (s x : Operand)
    (ho : o.op = .call { callee := .builtin .append, args := #[s, x], argTypes := #[23, 23] })
    {B B' : Nat} {v u : Value} {fs gs : List F3} (hown : OwnF B w v fs) (hs : a.eval s = v) (hx : a.eval x = u) (hr : OwnF B' w u gs)
    (hB : B ≤ w.heap.size) (hlen : fs.length + gs.length ≤ 2000000000)
    (h : ∀ v' w', OwnF B w' v' (fs ++ gs) → w.grownBy w' v.ownBlock → (v'.ownBlock = v.ownBlock ∨ v'.ownBlock = some w.heap.size) → wpList Try.prog ops Q rest (a.put o.dst v') w') : wpList Try.prog ops Q (o :: rest) a w := by
  obtain ⟨ao, c, rfl, hf⟩ := hr.shape
  rcases hr.2 with ⟨e, hn⟩ | ⟨g, cap, cur, e, _⟩
  · obtain ⟨i, hi1, hi2, hi3, hi4⟩ := info_parts info_flow
    have hg : gs = [] := List.eq_nil_of_length_eq_zero hn
    subst hg
    refine wpList_append_own_none hgd s x 23 ho B 28 i 3 Try.underlying23 hi1 v _ _ hs hown (hx.trans e) (h v w ?_ (grown_refl _ _) (.inl rfl))
    rw [List.append_nil]; exact hown
  · simp only [Value.slice.injEq] at e
    obtain ⟨rfl, _, rfl⟩ := e
    exact app_flows hgd s x ho hown hs hx hf hB hlen h
theorem FlowsAt.apart {w w' : World} {ao : Option Addr} {n cap : Nat} {fs : List F3} {row : Option Nat} (h : FlowsAt w ao n cap fs) (hg : w.grownBy w' row) (hr : ∀ a, ao = some a → some a.block ≠ row) : FlowsAt w' ao n cap fs :=
  ⟨h.len, h.le, h.max, h.nil, h.cells.imp id fun ⟨b, off, e, hb, hc⟩ => ⟨b, off, e, Nat.lt_of_lt_of_le hb hg.size, fun i hi => have hr' := hr _ e; ⟨hg.cell (hc i hi).1 hr', hg.cell (hc i hi).2.1 hr', hg.cell (hc i hi).2.2 hr'⟩⟩⟩
theorem smallF_set {fs : List F3} (h : SmallF fs) (i : Nat) {f : F3} (h0 : 0 ≤ f.2.2) (h1 : f.2.2 ≤ 100) : SmallF (fs.set i f) := by
  intro j hj
  rw [List.length_set] at hj
  rw [List.getD_eq_getElem?_getD, List.getElem?_set]
  by_cases e : i = j
  · subst e
    rw [if_pos rfl, if_pos hj]; exact ⟨h0, h1⟩
  · rw [if_neg e, ← List.getD_eq_getElem?_getD]; exact h j hj
/-- flow i of owned flows, all three cells written -/
theorem OwnF.put {B : Nat} {w : World} {ao : Option Addr} {n cap : Nat} {fs : List F3} (h : OwnF B w (.slice ao n cap) fs) {i : Nat} (hi : i < fs.length) (x y z : Int) :
    ∃ g, ao = some ⟨g, 0, none⟩ ∧ B ≤ g ∧ (∀ j, w.frozen? ⟨g, j, none⟩ = false) ∧ w.cell? ⟨g, i * 3, none⟩ = some (.int .i64 (fs.getD i f0).1) ∧ w.cell? ⟨g, i * 3 + 1, none⟩ = some (.int .i64 (fs.getD i f0).2.1) ∧ w.cell? ⟨g, i * 3 + 2, none⟩ = some (.int .i64 (fs.getD i f0).2.2) ∧
      OwnF B (((w.setCell ⟨g, i * 3, none⟩ (.int .i64 x)).setCell ⟨g, i * 3 + 1, none⟩ (.int .i64 y)).setCell ⟨g, i * 3 + 2, none⟩ (.int .i64 z)) (.slice (some ⟨g, 0, none⟩) n cap) (fs.set i (x, y, z)) ∧
      w.grownBy (((w.setCell ⟨g, i * 3, none⟩ (.int .i64 x)).setCell ⟨g, i * 3 + 1, none⟩ (.int .i64 y)).setCell ⟨g, i * 3 + 2, none⟩ (.int .i64 z)) (some g) := by
  rcases h.2 with ⟨e, hn⟩ | ⟨g, cap', cur, e, _⟩
  · omega
  · simp only [Value.slice.injEq] at e
    obtain ⟨rfl, _, rfl⟩ := e
    obtain ⟨⟨c0, c1, c2⟩, hf, hB, hlt, h1, _, _⟩ := h.cell i hi
    have k1 := h1 x
    have L1 : (fs.set i (x, (fs.getD i f0).2.1, (fs.getD i f0).2.2)).getD i f0 = (x, (fs.getD i f0).2.1, (fs.getD i f0).2.2) := by
      rw [List.getD_eq_getElem?_getD, List.getElem?_set_self hi]; rfl
    have h2 := (k1.cell i (by rw [List.length_set]; exact hi)).2.2.2.2.2.1 y
    rw [L1, List.set_set] at h2
    have L2 : (fs.set i (x, y, (fs.getD i f0).2.2)).getD i f0 = (x, y, (fs.getD i f0).2.2) := by
      rw [List.getD_eq_getElem?_getD, List.getElem?_set_self hi]; rfl
    have h3 := (h2.cell i (by rw [List.length_set]; exact hi)).2.2.2.2.2.2 z
    rw [L2, List.set_set] at h3
    exact ⟨g, rfl, hB, hf, c0, c1, c2, h3, grown_trans (grown_set _ _ _ _) (grown_trans (grown_set _ _ _ _) (grown_set _ _ _ _))⟩
def DrawVPost (w : World) (e : Ending) (w' : World) : Prop :=
  ∃ fs gs, ∃ a1 c1 a2 c2, e = .returned (.tuple #[.slice a1 fs.length c1, .slice a2 gs.length c2]) ∧ SmallF fs ∧ SmallF gs ∧ FlowsAt w' a1 fs.length c1 fs ∧ FlowsAt w' a2 gs.length c2 gs ∧ w.grownBy w' none
set_option maxHeartbeats 4000000 in
theorem drawViewSame_any (w : World) (ao : Option Addr) (n cap : Nat) (hco : CodeAt w ao n cap) :
    Calls Try.prog 29 #[.slice ao n cap] w (DrawVPost w) := by
  go_enter Try.func29, Try.ntmps29
  go_wp2_with fail
  refine (l6Open_any _ _ _ _ hco).mono ?_
  rintro e w1 ⟨rb, rfl, z1, g1, r1⟩
  go_wp2_with fail
  refine (l92Flows_any rb 0 _ r1 (by omega)).mono ?_
  rintro e w2 ⟨fs, v2, rfl, l2, s2, o2, g2, r2⟩
  obtain ⟨a2, c2, rfl, t2⟩ := OwnF.shape o2
  obtain ⟨N, hN⟩ : ∃ N, fs.length = N := ⟨_, rfl⟩
  rw [hN] at o2 t2 l2 ⊢
  have HN := Lib.hid hN
  have SM := Lib.hid s2
  have T2 := Lib.hid t2
  have W2 := Lib.hid o2
  have G2 := Lib.hid (grown_new g1 g2 z1)
  have R2 := Lib.hid r2
  have P2 := Lib.hid (ownF_nil w2.heap.size w2 (Nat.le_refl _))
  have hrb := r2.lt
  have hrb1 := r1.lt
  have HA2 := Lib.hid (show ∀ a, a2 = some a → a.block < w2.heap.size from fun a e => (o2.bound a.block (by rw [e]; rfl)).2)
  have G2s := Lib.hid G2.out.size
  have HA := Lib.hid (show ∀ a, a2 = some a → w1.heap.size ≤ a.block from fun a e => (o2.bound a.block (by rw [e]; rfl)).1)
  clear o2 t2 g1 g2 r1 r2 s2 hN
  go_wp2_with (at_builtin; refine (app_flows_own rfl (.tmp 12) (.tmp 13) rfl P2.out rfl rfl (W2.out.grown (grown_alloc _ _ _)) (by simp) (by rw [HN.out]; simp; omega) ?_); intro v3 w3 o3 g3 s3; refine Hid.out ?_)
  show wpList _ _ _ _ _ _
  rw [List.nil_append] at o3
  have G3 := Lib.hid (grownF_own (grown_alloc w2 (.cells #[] 28) none) P2.out g3 (Nat.le_refl _))
  have R3 := Lib.hid (R2.out.grown G3.out)
  have T3 := Lib.hid (T2.out.grown G3.out)
  have G3w := Lib.hid (grown_trans G2.out G3.out)
  obtain ⟨a3, c3, rfl, t3⟩ := OwnF.shape o3
  rw [HN.out] at o3 ⊢
  have O3 := Lib.hid o3
  clear o3 t3 g3 s3 P2 R3 T3 G3w
  go_wp2_with fail
  go_loopw [7] (fun q wr => ∃ i : Nat, ∃ zs : List F3, i ≤ N ∧ q = .int .i64 i ∧ zs.length = N ∧ Hid (SmallF zs) ∧ Hid (OwnF w2.heap.size wr (.slice a3 N c3) zs) ∧ Hid (w3.grownBy wr (Value.ownBlock (.slice a3 N c3)))) (fun q _ => N - (intOf q).toNat)
  case atStart => exact ⟨0, fs, by omega, rfl, HN.out, SM, O3, Lib.hid (grown_refl _ _)⟩
  case round =>
    obtain ⟨i, zs, hi, rfl, hzl, hsm, ho, hg⟩ := hrel
    obtain ⟨wo, rfl⟩ : ∃ wo : World, wo = wr := ⟨_, rfl⟩
    have HZ := Lib.hid hzl
    clear hzl
    by_cases hin : i < N
    · have hf := ho.out.at.1
      obtain ⟨b, off, rfl, -, -, -, -⟩ := hf.at i hin
      have : off = 0 := by
        rcases ho.out.2 with ⟨e, _⟩ | ⟨g, cap, cur, e, _⟩
        · simp at e
        · simp at e; exact e.1.2
      subst this
      obtain ⟨⟨c0, c1', c2'⟩, hfz, hB, hlt, -, -, hset⟩ := ho.out.cell i (by rw [HZ.out]; exact hin)
      obtain ⟨f, hf2⟩ : ∃ f, zs.getD i f0 = f := ⟨_, rfl⟩
      obtain ⟨x, y, z⟩ := f
      have SB := hsm.out i (by rw [HZ.out]; exact hin)
      rw [hf2] at c0 c1' c2' SB hset
      obtain ⟨sb0, sb1⟩ := SB
      have HS := Lib.hid hset
      simp only at c0 c1' c2' sb0 sb1
      have fz := hfz (i * 3 + 2)
      have i0 : (0 : Int) ≤ (i : Int) := by omega
      have i1 : (i : Int) < N := by omega
      clear hf hf2 hfz hset
      have SN := Lib.hid (smallF_set hsm.out i (f := (x, y, 100 - z)) (by show 0 ≤ 100 - z; omega) (by show 100 - z ≤ 100; omega))
      have ON := Lib.hid (HS.out (100 - z))
      have GN := Lib.hid (grown_trans hg.out (grown_set wo b (i * 3 + 2) (.int .i64 (100 - z))))
      clear HS hsm ho hg
      go_wp2
      go_roundw
      case rel => exact ⟨i + 1, _, by omega, by go_num, by rw [List.length_set]; exact HZ.out, SN, ON, GN⟩
      case measure => simp [intOf]; omega
    · have hin' : i = N := by omega
      have g5 := grownF_own G3.out O3.out hg.out (Nat.le_refl _)
      have G5 := Lib.hid (grown_trans G2.out g5)
      have T5 := Lib.hid (T2.out.grown g5)
      have R5 := Lib.hid (R2.out.grown g5)
      clear g5 T2 R2 G2 G3 O3 W2 hg hin'
      by_cases hN0 : N = 0
      · subst hN0
        go_wp2_with fail
        go_ret2
        exact ⟨fs, zs, _, _, _, _, by rw [HN.out, HZ.out]; rfl, SM.out, hsm.out, by rw [HN.out]; exact T5.out, by rw [HZ.out]; exact ho.out.at.1, G5.out⟩
      · have hN1 : (0 : Int) < N := by omega
        have hrbo := R5.out.lt
        go_wp2_with fail
        refine (pick_any _ 3 100 _ R5.out (by omega) (by omega) (by omega)).mono ?_
        rintro e w6 ⟨v6, rfl, k6, g6, r6⟩
        have O6 := Lib.hid (OwnF.row ho.out g6 (fun k e => by simp at e; omega))
        have T6 := Lib.hid (FlowsAt.apart T5.out g6 (fun a e => by have := HA.out a e; simp; omega))
        have G6 := Lib.hid (grown_new G5.out g6 z1)
        have R6 := Lib.hid r6
        clear T5 R5 G5 ho g6 r6
        by_cases h6 : v6 = 0
        · subst h6
          go_wp2_with fail
          refine (pick_any _ (N : Int) 101 _ R6.out (by omega) (by omega) (by omega)).mono ?_
          rintro e w7 ⟨v7, rfl, k7, g7, r7⟩
          go_wp2_with fail
          refine (pick_any _ 4 102 _ r7 (by omega) (by omega) (by omega)).mono ?_
          rintro e w8 ⟨v8, rfl, k8, g8, r8⟩
          go_wp2_with fail
          refine (pick_any _ 4 103 _ r8 (by omega) (by omega) (by omega)).mono ?_
          rintro e w9 ⟨v9, rfl, k9, g9, r9⟩
          go_wp2_with fail
          refine (pick_any _ 100 104 _ r9 (by omega) (by omega) (by omega)).mono ?_
          rintro e wA ⟨vA, rfl, kA, gA, rA⟩
          have gg := grown_trans g7 (grown_trans g8 (grown_trans g9 gA))
          have OA := OwnF.row O6.out gg (fun k e => by simp at e; omega)
          have TA := Lib.hid (FlowsAt.apart T6.out gg (fun a e => by have := HA.out a e; simp; omega))
          have GA := Lib.hid (grown_new G6.out gg z1)
          have hv7 : v7 < N := by omega
          clear T6 O6 G6 R6 gg g7 g8 g9 gA r7 r8 r9 rA
          obtain ⟨g, rfl, hBg, fz, c0, c1', c2', OB, hg9⟩ := OwnF.put OA (show v7 < zs.length by rw [HZ.out]; exact hv7) (v8 : Int) (v9 : Int) (vA : Int)
          have SB := Lib.hid (smallF_set hsm.out v7 (f := ((v8 : Int), (v9 : Int), (vA : Int))) (by show (0 : Int) ≤ vA; omega) (by show (vA : Int) ≤ 100; omega))
          have i0 : (0 : Int) ≤ (v7 : Int) := by omega
          have i1 : (v7 : Int) < N := by omega
          clear OA
          have TB := Lib.hid (FlowsAt.apart TA.out hg9 (fun a e => by have := HA2.out a e; simp; omega))
          have GB := Lib.hid (grown_new GA.out hg9 (by have := G2s.out; omega))
          have OC := Lib.hid OB
          clear OB hg9
          go_wp2_with fail
          go_ret2
          exact ⟨fs, _, _, _, _, _, by rw [HN.out, List.length_set, HZ.out]; rfl, SM.out, SB.out, by rw [HN.out]; exact TB.out, by rw [List.length_set, HZ.out]; exact OC.out.at.1, GB.out⟩
        · have h6' : ((v6 : Int) == 0) = false := by simp; omega
          go_wp2_with fail
          go_ret2
          exact ⟨fs, zs, _, _, _, _, by rw [HN.out, HZ.out]; rfl, SM.out, hsm.out, by rw [HN.out]; exact T6.out, by rw [HZ.out]; exact O6.out.at.1, G6.out⟩
set_option maxHeartbeats 2000000 in
theorem fnViewSame_walk (ao : Option Addr) (n cap : Nat) (w : World) (h1 : CodeAt w ao n cap) :
    Calls Try.prog 10 #[.slice ao n cap] w fun e w' => e = .returned (.bool true) ∧ w.grownBy w' none := by
  by_cases a : (1048576 : Int) < n
  · go_enter Try.func10, Try.ntmps10
    go_wp2
    go_ret
    exact ⟨rfl, grown_refl _ _⟩
  · go_enter Try.func10, Try.ntmps10
    go_wp2_with fail
    refine (drawViewSame_any _ _ _ _ h1).mono ?_
    rintro e w1 ⟨fs, gs, a1, c1, a2, c2, rfl, sf, sg, t1, t2, g1⟩
    go_wp2_with fail
    refine (viewSame_any _ _ _ _ fs _ _ _ gs t1 t2 sf.wf sg.wf).mono ?_
    rintro e w2 ⟨rfl, g2⟩
    go_wp2_with fail
    refine (viewSameS_any _ _ _ _ fs _ _ _ gs (t1.grown g2) (t2.grown g2)).mono ?_
    rintro e w3 ⟨rfl, g3⟩
    have SY := Lib.hid (show pb (SameP gs fs) = pb (SameP fs gs) from pb_congr ⟨fun h => ⟨h.2.1, h.1, h.2.2.symm⟩, fun h => ⟨h.2.1, h.1, h.2.2.symm⟩⟩)
    have WFf := sf.wf
    have WFg := sg.wf
    have T1 := Lib.hid (t1.grown (grown_trans g2 g3))
    have T2 := Lib.hid (t2.grown (grown_trans g2 g3))
    have G3 := Lib.hid (grown_trans g1 (grown_trans g2 g3))
    clear t1 t2 g1 g2 g3 sf sg
    obtain ⟨b, hb⟩ : ∃ b, pb (SameP fs gs) = b := ⟨_, rfl⟩
    have HB := Lib.hid hb
    rw [hb] at SY ⊢
    have bb : (b != b) = false := by cases b <;> rfl
    have bb2 : (b == b) = true := by cases b <;> rfl
    clear hb
    go_wp2_with fail
    refine (viewSame_any _ _ _ _ gs _ _ _ fs T2.out T1.out WFg WFf).mono ?_
    rintro e w4 ⟨rfl, g4⟩
    rw [SY.out]
    have T3 := Lib.hid (T1.out.grown g4)
    have T4 := Lib.hid (T2.out.grown g4)
    have G4 := Lib.hid (grown_trans G3.out g4)
    clear g4
    cases b with
    | false =>
      go_wp2_with fail
      go_ret
      exact ⟨rfl, G4.out⟩
    | true =>
      have EQ := Lib.hid (pb_iff.1 HB.out).2.2
      go_wp2_with fail
      refine (viewOf_any _ _ _ _ fs T3.out WFf).mono ?_
      rintro e w5 ⟨v5, rfl, o5, g5⟩
      obtain ⟨a5, c5, rfl, t5⟩ := OwnF.shape o5
      go_wp2_with fail
      refine (viewOf_any _ _ _ _ gs (T4.out.grown g5) WFg).mono ?_
      rintro e w6 ⟨v6, rfl, o6, g6⟩
      rw [← EQ.out] at o6
      obtain ⟨a6, c6, rfl, t6⟩ := OwnF.shape o6
      go_wp2_with fail
      refine (sameFlows_any _ _ _ _ (viewL fs) _ _ _ (viewL fs) (t5.grown g6) t6).mono ?_
      rintro e w7 ⟨rfl, d, rfl⟩
      rw [pb_true (p := viewL fs = viewL fs) rfl]
      go_wp2_with fail
      go_ret
      exact ⟨rfl, gDrewN (grown_trans G4.out (grown_trans g5 g6)) d⟩
end Go.Proofs.Ytolifggjblfobaa
