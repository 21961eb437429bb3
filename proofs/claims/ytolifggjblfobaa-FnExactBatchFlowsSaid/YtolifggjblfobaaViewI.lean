/- ViewOf of both. -/
import Derived.Test.YtolifggjblfobaaViewS
import Derived.Test.YtolifggjblfobaaNum
import Derived.WalkKit
import Derived.Lib.Hide
import Derived.Deep.QuietTactic
import Derived.BigQuiet
import Derived.Deep.RegionHeld3
namespace Go.Proofs.Ytolifggjblfobaa
open Go.RowKit
theorem num_apart {B : Nat} {w : World} {vb mb : Nat} {ns : List Int} {v : Value} {fs : List F3} (h : NumAt w vb mb ns) (ho : OwnF B w v fs) : some vb ≠ v.ownBlock ∧ some mb ≠ v.ownBlock := by
  obtain ⟨hb, hne, D, hm, hd⟩ := h
  obtain ⟨es, clock, hmb, _⟩ := hm
  rcases ho.2 with ⟨rfl, _⟩ | ⟨g, cap, cur, rfl, _, hg, _⟩
  · simp [Value.ownBlock]
  · refine ⟨fun e => ?_, fun e => ?_⟩
    · simp [Value.ownBlock] at e
      subst e
      rw [hb] at hg
      simp at hg
    · simp [Value.ownBlock] at e
      subst e
      rw [hmb] at hg
      simp at hg
theorem NumAt.lt {w : World} {vb mb : Nat} {ns : List Int} (h : NumAt w vb mb ns) : vb < w.heap.size ∧ mb < w.heap.size := by
  obtain ⟨hb, hne, D, hm, hd⟩ := h
  exact ⟨blkL hb, World.ownsMap.lt hm⟩
theorem numStep {B : Nat} {w wo W w5 : World} {vb mb : Nat} {ns : List Int} {v : Value} {fs : List F3} (hv : OwnF B wo v fs) (hN : NumAt wo vb mb ns) (hg : w.grownBy wo none) (hmb : w.heap.size ≤ mb) (g8 : wo.grownBy W none) (g5 : W.grownBy w5 (some mb)) : OwnF B w5 v fs ∧ w.grownBy w5 none :=
  ⟨OwnF.apart (OwnF.grown hv g8) g5 (.inr (Ne.symm (num_apart hN hv).2)), grown_new (grown_trans hg g8) g5 hmb⟩
theorem numPush {B : Nat} {w w5 W5 w9 : World} {vb mb : Nat} {ns : List Int} {v : Value} {fs : List F3} (N5 : NumAt w5 vb mb ns) (V5 : OwnF B w5 v fs) (G5 : w.grownBy w5 none) (hB : w.heap.size ≤ B) (g8 : w5.grownBy W5 none) (g9 : W5.grownBy w9 v.ownBlock) : NumAt w9 vb mb ns ∧ w.grownBy w9 none :=
  ⟨NumAt.row (NumAt.row N5 g8 (by simp) (by simp)) g9 (num_apart (NumAt.row N5 g8 (by simp) (by simp)) (OwnF.grown V5 g8)).1 (num_apart (NumAt.row N5 g8 (by simp) (by simp)) (OwnF.grown V5 g8)).2, grownF_own (grown_trans G5 g8) (OwnF.grown V5 g8) g9 hB⟩
set_option maxHeartbeats 2000000 in
theorem viewOf_any (w : World) (ao : Option Addr) (n cap : Nat) (fs : List F3) (h : FlowsAt w ao n cap fs) (hwf : Wf fs) :
    Calls Try.prog 19 #[.slice ao n cap] w (FlowPost w (viewL fs)) := by
  have H := Lib.hid h.len
  have hm := h.max
  have hnm := h.le
  have HWF := Lib.hid hwf
  clear hwf
  go_enter Try.func19, Try.ntmps19
  go_wp2_with fail
  refine (flowsValid_any _ _ _ _ fs h).mono ?_
  rintro e w1 ⟨rfl, g1⟩
  by_cases hP : FlowsP fs
  case neg =>
    have R := Lib.hid (viewL_no hP)
    rw [pb_false hP]
    have G1 := Lib.hid g1
    clear hP g1
    go_wp2_with fail
    go_ret
    exact ⟨_, rfl, by rw [R.out]; exact ownF_none _ _, G1.out⟩
  case pos =>
    have R := Lib.hid (viewL_yes hP)
    have HP := Lib.hid hP
    have hn16 : n ≤ 16 := by have := hP.1; have := H.out; omega
    rw [pb_true hP]
    have G1 := Lib.hid g1
    clear hP g1
    go_wp2_with fail
    refine (numbered_any _).mono ?_
    rintro e w2 ⟨vb, mb, rfl, zmb, zvb, N2, g2⟩
    have s1 := G1.out.size
    have G2 := Lib.hid (gAlloc (grown_trans G1.out g2) (.cells #[] 28))
    have P2 := Lib.hid (ownF_nil w.heap.size w2 (by have := g2.size; omega))
    have M2 := Lib.hid (NumAt.row N2 (grown_alloc w2 (.cells #[] 28) none) (by simp) (by simp))
    have hmbw : w.heap.size ≤ mb := by omega
    clear N2 g2 zmb zvb s1 G1
    go_wp2_with fail
    go_loopw [4, 6, 14] (fun v p q wr => ∃ i : Nat, i ≤ n ∧ q = .int .i64 i ∧ Hid (OwnF w.heap.size wr v (viewR fs i)) ∧ Hid (NumAt wr vb mb (seen fs i)) ∧ Hid (w.grownBy wr none)) (fun _ _ q _ => n - (intOf q).toNat)
    case atStart => exact ⟨0, by omega, rfl, P2, M2, G2⟩
    case round =>
      clear P2 M2 G2
      obtain ⟨i, hi, rfl, hv, hN, hg⟩ := hrel
      obtain ⟨wo, rfl⟩ : ∃ wo : World, wo = wr := ⟨_, rfl⟩
      by_cases hin : i < n
      · have NS := Lib.hid (show seen fs (i + 1) = addN (seen fs i) (fs.getD i f0).2.2 from rfl)
        have VA := Lib.hid (show viewR fs (i + 1) = viewR fs i ++ [((fs.getD i f0).1, (fs.getD i f0).2.1, (((seen fs i).idxOf (fs.getD i f0).2.2 : Nat) : Int))] from viewR_step fs i)
        have VL := Lib.hid (viewR_len fs i)
        have SL := seen_len fs i
        have hfp := HP.out.2 i (by rw [H.out]; exact hin)
        have hwx := HWF.out i (by rw [H.out]; exact hin)
        obtain ⟨b, off, rfl, hb, cx, cy, cz⟩ := (h.grown hg.out).at i hin
        obtain ⟨f, hf⟩ : ∃ f, fs.getD i f0 = f := ⟨_, rfl⟩
        obtain ⟨x, y, z⟩ := f
        obtain ⟨ns, hns⟩ : ∃ ns, seen fs i = ns := ⟨_, rfl⟩
        rw [hf] at cx cy cz NS VA hfp hwx
        rw [hns] at hN NS VA SL
        simp only at cx cy cz NS VA hwx
        have IN := Lib.hid (show In64 z from ⟨by have : 0 ≤ z := hfp.2.2; omega, hwx⟩)
        clear hf hns hfp hwx
        have LT := hN.out.lt
        obtain ⟨lt1, lt2⟩ := LT
        have D0 : (wo.alloc (.cells #[.int .i64 x, .int .i64 y, .int .i64 z] 28)).heap[wo.heap.size]? = some (.cells #[.int .i64 x, .int .i64 y, .int .i64 z] 28) := heap_alloc_new wo _
        have DB := Lib.hid D0
        have hne : some wo.heap.size ≠ some mb := by simp; omega
        have hown : some wo.heap.size ≠ u4.ownBlock := fun e => by have := (hv.out.bound _ e.symm).2; omega
        clear D0
        have g8 : wo.grownBy (wo.alloc (.cells #[.int .i64 x, .int .i64 y, .int .i64 z] 28)).drew none := gDrew (grown_alloc _ _ _)
        have N8 := Lib.hid (NumAt.row hN.out g8 (by simp) (by simp))
        have SLx : ns.length ≤ 1000 := by omega
        have LV := Lib.hid (show ∀ f : F3, (viewR fs i).length + [f].length ≤ 2000000000 from fun f => by rw [VL.out]; simp; omega)
        have G8 := Lib.hid g8
        clear g8
        go_wp2_with fail
        go_region_held3 (fun w' => w'.cell? ⟨wo.heap.size, 0, none⟩ = some (.int .i64 x) ∧ w'.cell? ⟨wo.heap.size, 1, none⟩ = some (.int .i64 y) ∧ w'.cell? ⟨wo.heap.size, 2, none⟩ = some (.int .i64 z)) (first | go_keep | exact ⟨ex, ey, ez⟩)
          (first
            | (go_at_call 54; refine (number_any _ vb mb ns z N8.out IN.out SLx).mono ?_; rintro e w5 ⟨rfl, N5, g5⟩; have db := blkK g5 DB.out hne; have ex : w5.cell? ⟨wo.heap.size, 0, none⟩ = some (.int .i64 x) := blkC db 0 rfl; have ey : w5.cell? ⟨wo.heap.size, 1, none⟩ = some (.int .i64 y) := blkC db 1 rfl; have ez : w5.cell? ⟨wo.heap.size, 2, none⟩ = some (.int .i64 z) := blkC db 2 rfl)
            | (refine step_flow rfl (.tmp 18) (.tmp 28) rfl (OwnF.grown (numStep hv.out hN.out hg.out hmbw G8.out g5).1 (by (repeat (with_reducible (first | refine gDrew ?_ | refine gDrewN ?_ _ | refine gAlloc ?_ _))); exact grown_refl _ _)) rfl rfl (FlowsAt.grown (one_flow w5 _ _ _) (by (repeat (with_reducible (first | refine gDrew ?_ | refine gDrewN ?_ _))); exact ⟨rfl, rfl, rfl, Nat.le_refl _, fun _ _ _ => rfl⟩)) (grown_trans (numStep hv.out hN.out hg.out hmbw G8.out g5).2 (by (repeat (with_reducible (first | refine gDrew ?_ | refine gDrewN ?_ _ | refine gAlloc ?_ _))); exact grown_refl _ _)).size (LV.out _) ?_; intro v9 w9 o9 g9; have d9 := blkK g9 (blkK (row := none) (by (repeat (with_reducible (first | refine gDrew ?_ | refine gDrewN ?_ _ | refine gAlloc ?_ _))); exact grown_refl _ _) db (by simp)) hown; have ex : w9.cell? ⟨wo.heap.size, 0, none⟩ = some (.int .i64 x) := blkC d9 0 rfl; have ey : w9.cell? ⟨wo.heap.size, 1, none⟩ = some (.int .i64 y) := blkC d9 1 rfl; have ez : w9.cell? ⟨wo.heap.size, 2, none⟩ = some (.int .i64 z) := blkC d9 2 rfl))
        have PS := numStep hv.out hN.out hg.out hmbw (by (repeat (with_reducible (first | refine gDrew ?_ | refine gDrewN ?_ _ | refine gAlloc ?_ _))); exact grown_refl _ _) g5
        have PP := numPush N5 PS.1 PS.2 (Nat.le_refl _) (by (repeat (with_reducible (first | refine gDrew ?_ | refine gDrewN ?_ _ | refine gAlloc ?_ _))); exact grown_refl _ _) g9
        have Q1 := Lib.hid o9
        have Q2 := Lib.hid PP.1
        have Q3 := Lib.hid PP.2
        clear o9 g9 PS PP g5 N5 cx cy cz
        go_wp2
        go_roundw
        case rel => exact ⟨i + 1, by omega, by go_num, by rw [VA.out]; exact Q1, by rw [NS.out]; exact Q2, Q3⟩
        case measure => simp [intOf]; omega
      · have hin' : i = n := by omega
        have O9 := Lib.hid (show OwnF w.heap.size wo u4 (viewL fs) by rw [R.out, H.out, ← hin']; exact hv.out)
        clear hin'
        go_wp2
        go_ret
        exact ⟨_, rfl, O9.out, hg.out⟩
theorem viewOfS_any (w : World) (ao : Option Addr) (n cap : Nat) (fs : List F3) (h : FlowsAt w ao n cap fs) :
    Calls Try.prog 20 #[.slice ao n cap] w (FlowPost w (viewL fs)) := by
  have H := Lib.hid h.len
  have P0 := Lib.hid (ownF_nil w.heap.size w (Nat.le_refl _))
  have G0 := Lib.hid (grown_alloc w (.cells #[] 28) none)
  go_enter Try.func20, Try.ntmps20
  go_wp2_with fail
  refine (l32Flows_any _ _ _ _ fs h).mono ?_
  rintro e w1 ⟨rfl, rfl⟩
  by_cases hP : FlowsP fs
  case neg =>
    have R := Lib.hid (viewL_no hP)
    rw [pb_false hP]
    clear hP
    go_wp2_with fail
    go_ret
    exact ⟨_, rfl, by rw [R.out]; exact P0.out, G0.out⟩
  case pos =>
    have R := Lib.hid (viewL_yes hP)
    have hn16 : n ≤ 16 := by have := hP.1; have := H.out; omega
    rw [pb_true hP]
    clear hP
    go_wp2_with fail
    refine (l32View_any _ _ _ _ fs h (by omega)).mono ?_
    rintro e w2 ⟨v2, rfl, o2, g2⟩
    obtain ⟨a2, c2, rfl, -⟩ := OwnF.shape o2
    have O2 := Lib.hid (show OwnF w.heap.size w2 (.slice a2 (viewR fs n).length c2) (viewL fs) by rw [R.out, H.out]; exact o2)
    clear o2
    go_wp2_with fail
    go_ret
    exact ⟨_, rfl, O2.out, g2⟩
end Go.Proofs.Ytolifggjblfobaa
