/- The view of the reference. -/
import Derived.Test.YtolifggjblfobaaFlowV
import Derived.WalkKit
import Derived.Lib.Hide
import Derived.Deep.QuietTactic
import Derived.BigQuiet
import Derived.StillTailTactics
import Derived.Deep.RegionHeld3
namespace Go.Proofs.Ytolifggjblfobaa
open Go.RowKit
theorem own_typesF {e : TypeId} {B B' : Nat} {w : World} {u v : Value} {cs : List Value} {fs : List F3} (h : Own e B w u cs) (h' : OwnF B' w v fs) (hne : e ≠ 28) : (u.ownBlock = none ∨ u.ownBlock ≠ v.ownBlock) ∧ (v.ownBlock = none ∨ v.ownBlock ≠ u.ownBlock) := by
  rcases h.2 with ⟨rfl, _⟩ | ⟨g, cap, cur, rfl, _, hg, _⟩
  · refine ⟨.inl rfl, ?_⟩
    cases hv : v.ownBlock with
    | none => exact .inl rfl
    | some k => exact .inr (by simp [Value.ownBlock])
  · rcases h'.2 with ⟨rfl, _⟩ | ⟨g', cap', cur', rfl, _, hg', _⟩
    · exact ⟨.inr (by simp [Value.ownBlock]), .inl rfl⟩
    · have : g ≠ g' := by
        intro e
        subst e
        rw [hg] at hg'
        simp at hg'
        exact hne hg'.2
      exact ⟨.inr (by simpa [Value.ownBlock] using this), .inr (by simpa [Value.ownBlock] using Ne.symm this)⟩
/-- what is returned: flows of the call's own -/
def FlowPost (w : World) (gs : List F3) (e : Ending) (w' : World) : Prop := ∃ v, e = .returned v ∧ OwnF w.heap.size w' v gs ∧ w.grownBy w' none
theorem idxOf_le : ∀ (ns : List Int) (x : Int) (k : Nat), ns[k]? = some x → ns.idxOf x ≤ k
  | [], _, _, h => by simp at h
  | y :: t, x, 0, h => by
    simp at h
    subst h
    rw [List.idxOf_cons]; simp
  | y :: t, x, k + 1, h => by
    have := idxOf_le t x k (by simpa using h)
    rw [List.idxOf_cons]
    cases hyx : y == x
    · simp; exact this
    · simp
theorem idx_found {ns : List Int} {x : Int} {k : Nat} (hk : k < ns.length) (h : ∀ j, j < k → ns.getD j 0 ≠ x) (e : ns.getD k 0 = x) : ns.idxOf x = k ∧ x ∈ ns := by
  have hm : x ∈ ns := by rw [← e]; exact mem_getD hk
  refine ⟨?_, hm⟩
  have hlt := List.idxOf_lt_length_iff.2 hm
  have hg := List.getElem_idxOf hlt
  have hge : k ≤ ns.idxOf x := by
    refine Classical.byContradiction fun hc => ?_
    refine h (ns.idxOf x) (by omega) ?_
    rw [List.getD_eq_getElem?_getD, List.getElem?_eq_getElem hlt, Option.getD_some, hg]
  have hle : ns.idxOf x ≤ k := idxOf_le ns x k (by rw [← e, List.getD_eq_getElem?_getD, List.getElem?_eq_getElem hk]; rfl)
  omega
theorem pushed {B : Nat} {w wo W w9 : World} {u v : Value} {ns : List Int} {fs : List F3} (hu : OwnI B wo u ns) (hv : OwnF B wo v fs) (hg : w.grownBy wo none) (hB : w.heap.size ≤ B) (g8 : wo.grownBy W none) (g9 : W.grownBy w9 v.ownBlock) : OwnI B w9 u ns ∧ w.grownBy w9 none :=
  ⟨Own.apart (OwnI.grown hu g8) g9 (own_typesF (OwnI.grown hu g8) (OwnF.grown hv g8) (by decide)).1, grownF_own (grown_trans hg g8) (OwnF.grown hv g8) g9 hB⟩
theorem pushedI {B : Nat} {w wo W w9 : World} {u v : Value} {ns : List Int} {fs : List F3} (hu : OwnI B wo u ns) (hv : OwnF B wo v fs) (hg : w.grownBy wo none) (hB : w.heap.size ≤ B) (g8 : wo.grownBy W none) (g9 : W.grownBy w9 u.ownBlock) : OwnF B w9 v fs ∧ w.grownBy w9 none :=
  ⟨OwnF.apart (OwnF.grown hv g8) g9 (own_typesF (OwnI.grown hu g8) (OwnF.grown hv g8) (by decide)).2, grown_own (grown_trans hg g8) (OwnI.grown hu g8) g9 hB⟩
set_option maxHeartbeats 2000000 in
theorem l32View_any (w : World) (ao : Option Addr) (n cap : Nat) (fs : List F3) (h : FlowsAt w ao n cap fs) (hn : n ≤ 1000) :
    Calls Try.prog 42 #[.slice ao n cap] w (FlowPost w (viewR fs n)) := by
  have H := Lib.hid h.len
  have hm := h.max
  have hnm := h.le
  have z1 : (w.alloc (.cells #[] 3)).heap.size = w.heap.size + 1 := by simp
  have O0 := Lib.hid (OwnI.grown (own_nil w.heap.size w (Nat.le_refl _)) (grown_alloc (w.alloc (.cells #[] 3)) (.cells #[] 28) none))
  have p0 := ownF_nil w.heap.size (w.alloc (.cells #[] 3)) (by rw [z1]; omega)
  rw [z1] at p0
  have P0 := Lib.hid p0
  have G0 := Lib.hid (gAlloc (grown_alloc w (.cells #[] 3) none) (.cells #[] 28))
  clear z1 p0
  go_enter Try.func42, Try.ntmps42
  go_wp2
  go_loopw [3, 4, 5, 6] (fun u v q t wr => ∃ i : Nat, i ≤ n ∧ q = .int .i64 i ∧ Hid (OwnI w.heap.size wr u (seen fs i)) ∧ Hid (OwnF w.heap.size wr v (viewR fs i)) ∧ Hid (w.grownBy wr none)) (fun _ _ q _ _ => n - (intOf q).toNat)
  case atStart => exact ⟨0, by omega, rfl, O0, P0, G0⟩
  case round =>
    clear O0 P0 G0
    obtain ⟨i, hi, rfl, hu, hv, hg⟩ := hrel
    obtain ⟨wo, rfl⟩ : ∃ wo : World, wo = wr := ⟨_, rfl⟩
    by_cases hin : i < n
    · have NS := Lib.hid (show seen fs (i + 1) = addN (seen fs i) (fs.getD i f0).2.2 from rfl)
      have VA := Lib.hid (show viewR fs (i + 1) = viewR fs i ++ [((fs.getD i f0).1, (fs.getD i f0).2.1, (((seen fs i).idxOf (fs.getD i f0).2.2 : Nat) : Int))] from viewR_step fs i)
      have VL := Lib.hid (viewR_len fs i)
      have SL := seen_len fs i
      obtain ⟨b, off, rfl, hb, cx0, cy0, cz0⟩ := h.at i hin
      obtain ⟨f, hf⟩ : ∃ f, fs.getD i f0 = f := ⟨_, rfl⟩
      obtain ⟨x, y, z⟩ := f
      obtain ⟨ns, hns⟩ : ∃ ns, seen fs i = ns := ⟨_, rfl⟩
      rw [hf] at cx0 cy0 cz0 NS VA
      rw [hns] at hu NS VA SL
      simp only at cx0 cy0 cz0 NS VA
      have cx := hg.out.cell cx0 (by simp)
      have cy := hg.out.cell cy0 (by simp)
      have cz := hg.out.cell cz0 (by simp)
      have CX0 := Lib.hid cx0
      have CY0 := Lib.hid cy0
      clear cx0 cy0 cz0
      have HF := Lib.hid hf
      clear hf hns
      obtain ⟨uo, uc, rfl, ui, -⟩ := OwnI.shape hu.out
      obtain ⟨m, hm2⟩ : ∃ m, ns.length = m := ⟨_, rfl⟩
      rw [hm2] at ui hu SL ⊢
      have UI := Lib.hid ui
      have HM := Lib.hid hm2
      clear ui hm2
      have i0 : (0 : Int) ≤ (i : Int) := by omega
      have i1 : (i : Int) < n := by omega
      go_wp2_with fail
      go_loopw [6] (fun q wr => ∃ k : Nat, k ≤ m ∧ q = .int .i64 k ∧ Hid (∀ j, j < k → ns.getD j 0 ≠ z) ∧ Hid (∃ d, wr = wo.drewN d)) (fun q _ => m - (intOf q).toNat)
      case atStart => exact ⟨0, by omega, rfl, Lib.hid fun j hj => by omega, Lib.hid ⟨0, rfl⟩⟩
      case round =>
        obtain ⟨k, hk, rfl, hok, hd⟩ := hrel
        rw [← drewN_cell hd] at cx cy cz
        have GR := Lib.hid (drewN_grown hd.out none)
        by_cases hkm : k < m
        · obtain ⟨g, goff, rfl, -, hc⟩ := UI.out.addr (by omega)
          have cu := hc k hkm
          rw [← drewN_cell hd] at cu
          obtain ⟨y2, hy2⟩ : ∃ y2, ns.getD k 0 = y2 := ⟨_, rfl⟩
          rw [hy2] at cu
          have HY := Lib.hid hy2
          clear hc hy2
          have k0 : (0 : Int) ≤ (k : Int) := by omega
          have k1 : (k : Int) < m := by omega
          by_cases he : y2 = z
          · subst he
            have hbn : (y2 != y2) = false := by simp
            have IX := Lib.hid (idx_found (by rw [HM.out]; exact hkm) hok.out HY.out)
            have hkne : ((k : Int) == (m : Int)) = false := by simp; omega
            clear hok
            go_wp2_with fail
            go_quiet (fail)
            obtain ⟨W, hW⟩ : ∃ W, wr.drewN nq = W := ⟨_, rfl⟩
            rw [hW]
            have gW : wo.grownBy W none := by rw [← hW]; exact gDrewN GR.out _
            have M1 := Lib.hid (OwnI.grown hu.out gW)
            have M2 := Lib.hid (OwnF.grown hv.out gW)
            have M3 := Lib.hid (grown_trans hg.out gW)
            have M4 := Lib.hid (grown_refl W none)
            obtain ⟨b', off', e1, _, dx, dy, dz⟩ := (h.grown M3.out).at i hin
            simp only [Option.some.injEq, Addr.mk.injEq, and_true] at e1
            obtain ⟨e1, e2⟩ := e1
            subst e1 e2
            rw [HF.out] at dx dy dz
            simp only at dx dy dz
            clear gW hW cx cy cz
            go_wp2_with fail
            go_region_held3 (fun w' => w'.cell? ⟨b, off + i * 3, none⟩ = some (.int .i64 x) ∧ w'.cell? ⟨b, off + i * 3 + 1, none⟩ = some (.int .i64 y)) (first | go_keep | exact ⟨ex, ey⟩)
              ((refine step_flow rfl (.tmp 45) (.tmp 58) rfl (OwnF.grown M2.out (grown_trans M4.out (by (repeat (with_reducible (first | refine gDrew ?_ | refine gDrewN ?_ _ | refine gAlloc ?_ _))); exact grown_refl _ _))) rfl rfl (FlowsAt.grown (one_flow W _ _ _) (by (repeat (with_reducible (first | refine gDrew ?_ | refine gDrewN ?_ _))); exact ⟨rfl, rfl, rfl, Nat.le_refl _, fun _ _ _ => rfl⟩)) (grown_trans M3.out (grown_trans M4.out (by (repeat (with_reducible (first | refine gDrew ?_ | refine gDrewN ?_ _ | refine gAlloc ?_ _))); exact grown_refl _ _))).size (by rw [VL.out]; simp; omega) ?_; intro v9 w9 o9 g9; have PP := pushed M1.out M2.out M3.out (Nat.le_refl _) (grown_trans M4.out (by (repeat (with_reducible (first | refine gDrew ?_ | refine gDrewN ?_ _ | refine gAlloc ?_ _))); exact grown_refl _ _)) g9; have N1 := Lib.hid PP.1; have N2 := Lib.hid PP.2; have N3 := Lib.hid o9; have ex := PP.2.cell CX0.out (by simp); have ey := PP.2.cell CY0.out (by simp)))
            go_wp2
            go_roundw
            case rel => exact ⟨i + 1, by omega, by go_num, by rw [NS.out, addN_yes IX.out.2]; exact N1, by rw [VA.out, IX.out.1]; exact N3, N2⟩
            case measure => simp [intOf]; omega
          · have hbn : (y2 != z) = true := by simpa using he
            have NX : Hid (∀ j, j < k + 1 → ns.getD j 0 ≠ z) := Lib.hid fun j hj => by
              by_cases e : j = k
              · subst e; rw [HY.out]; exact he
              · exact hok.out j (by omega)
            clear he hok
            go_wp2_with fail
            go_quiet (fail)
            go_wp2
            go_roundw
            case rel => exact ⟨k + 1, by omega, by go_num, NX, drewN_more hd _⟩
            case measure => simp [intOf]; omega
        · have hkm' : k = m := by omega
          have NM := Lib.hid (not_mem_take (xs := ns) (y := z) fun j hj => hok.out j (by have := HM.out; omega))
          have IX := Lib.hid (show ns.idxOf z = m by rw [List.idxOf_eq_length NM.out, HM.out])
          subst hkm'
          have k0 : (0 : Int) ≤ (k : Int) := by omega
          clear hok hkm
          go_wp2_with fail
          go_quiet (fail)
          go_wp2_with (at_builtin; refine app_ints rfl (.tmp 37) (.tmp 43) rfl (OwnI.grown hu.out (grown_trans GR.out (by (repeat (with_reducible (first | refine gDrew ?_ | refine gDrewN ?_ _ | refine gAlloc ?_ _))); exact grown_refl _ _))) (one_int _ _) rfl rfl (grown_trans hg.out (grown_trans GR.out (by (repeat (with_reducible (first | refine gDrew ?_ | refine gDrewN ?_ _ | refine gAlloc ?_ _))); exact grown_refl _ _))).size (by rw [HM.out]; simp; omega) ?_; intro v3 w3 o3 g3; refine Hid.out ?_)
          show wpList _ _ _ _ _ _
          have PP := pushedI hu.out hv.out hg.out (Nat.le_refl _) (grown_trans GR.out (by (repeat (with_reducible (first | refine gDrew ?_ | refine gDrewN ?_ _ | refine gAlloc ?_ _))); exact grown_refl _ _)) g3
          have M1 := Lib.hid o3
          have M2 := Lib.hid PP.1
          have M3 := Lib.hid PP.2
          have M4 := Lib.hid (grown_refl w3 none)
          obtain ⟨b', off', e1, _, dx, dy, dz⟩ := (h.grown M3.out).at i hin
          simp only [Option.some.injEq, Addr.mk.injEq, and_true] at e1
          obtain ⟨e1, e2⟩ := e1
          subst e1 e2
          rw [HF.out] at dx dy dz
          simp only at dx dy dz
          clear PP o3 g3 cx cy cz
          go_wp2_with fail
          go_wp2_with fail
          go_region_held3 (fun w' => w'.cell? ⟨b, off + i * 3, none⟩ = some (.int .i64 x) ∧ w'.cell? ⟨b, off + i * 3 + 1, none⟩ = some (.int .i64 y)) (first | go_keep | exact ⟨ex, ey⟩)
            ((refine step_flow rfl (.tmp 45) (.tmp 58) rfl (OwnF.grown M2.out (grown_trans M4.out (by (repeat (with_reducible (first | refine gDrew ?_ | refine gDrewN ?_ _ | refine gAlloc ?_ _))); exact grown_refl _ _))) rfl rfl (FlowsAt.grown (one_flow w3 _ _ _) (by (repeat (with_reducible (first | refine gDrew ?_ | refine gDrewN ?_ _))); exact ⟨rfl, rfl, rfl, Nat.le_refl _, fun _ _ _ => rfl⟩)) (grown_trans M3.out (grown_trans M4.out (by (repeat (with_reducible (first | refine gDrew ?_ | refine gDrewN ?_ _ | refine gAlloc ?_ _))); exact grown_refl _ _))).size (by rw [VL.out]; simp; omega) ?_; intro v9 w9 o9 g9; have PP := pushed M1.out M2.out M3.out (Nat.le_refl _) (grown_trans M4.out (by (repeat (with_reducible (first | refine gDrew ?_ | refine gDrewN ?_ _ | refine gAlloc ?_ _))); exact grown_refl _ _)) g9; have N1 := Lib.hid PP.1; have N2 := Lib.hid PP.2; have N3 := Lib.hid o9; have ex := PP.2.cell CX0.out (by simp); have ey := PP.2.cell CY0.out (by simp)))
          go_wp2
          go_roundw
          case rel => exact ⟨i + 1, by omega, by go_num, by rw [NS.out, addN_no NM.out]; exact N1, by rw [VA.out, IX.out]; exact N3, N2⟩
          case measure => simp [intOf]; omega
    · have hin' : i = n := by omega
      subst hin'
      go_wp2
      go_ret
      exact ⟨_, rfl, hv.out, hg.out⟩
end Go.Proofs.Ytolifggjblfobaa
