/- The library's stable sort at the batch's closure. -/
import Derived.Test.YtolifggjblfobaaBatP
import Derived.Test.YtolifggjblfobaaViewV
import Derived.WalkKit
import Derived.Lib.Hide
import Derived.Deep.QuietTactic
import Derived.BigQuiet
import Derived.BigRegion
import Derived.Deep.RegionHeld3
namespace Go.Proofs.Ytolifggjblfobaa
open Go.RowKit
theorem cmpF_any (w : World) (x y z x' y' z' : Int) (h0 : -1 ≤ y) (h1 : y ≤ 8) (h2 : -1 ≤ y') (h3 : y' ≤ 8) :
    Calls Try.prog 50 #[.agg #[.int .i64 x, .int .i64 y, .int .i64 z], .agg #[.int .i64 x', .int .i64 y', .int .i64 z']] w fun e w' => e = .returned (.int .i64 (y - y')) ∧ w.grownBy w' none := by
  go_enter Try.func50, Try.ntmps50
  go_wp2_with fail
  go_ret
  exact ⟨rfl, (by (repeat (with_reducible (first | refine gDrew ?_ | refine gDrewN ?_ _ | refine gAlloc ?_ _))); exact grown_refl _ _)⟩
set_option maxHeartbeats 4000000 in
theorem insSort_any (B : Nat) (w : World) (g n cap : Nat) (rs : List Int) (c : Int) (hN : NamesP rs) (hl : rs.length = n) (h0 : 0 < n) (hn : n ≤ 8) (h : OwnF B w (.slice (some ⟨g, 0, none⟩) n cap) (rawF rs c 0 n)) :
    Calls Try.prog 57 #[.slice (some ⟨g, 0, none⟩) n cap, .int .i64 0, .int .i64 n, .func (.func 50) #[] #[]] w
      fun e w' => e = .returned (.tuple #[]) ∧ OwnF B w' (.slice (some ⟨g, 0, none⟩) n cap) (outF rs c n 8) ∧ w.grownBy w' (some g) := by
  have HN := Lib.hid hN
  have HL := Lib.hid hl
  have h' := h
  rw [show rawF rs c 0 n = outF rs c 1 8 ++ rawF rs c 1 n by rw [← hl]; exact raw_start c hN (by omega)] at h'
  have H1 := Lib.hid h'
  clear h h' hl hN
  go_enter Try.func57, Try.ntmps57
  go_wp2_with fail
  go_loopw [8, 9] (fun i j wr => ∃ k : Nat, 1 ≤ k ∧ k ≤ n ∧ i = .int .i64 k ∧ Hid (OwnF B wr (.slice (some ⟨g, 0, none⟩) n cap) (outF rs c k 8 ++ rawF rs c k n)) ∧ Hid (w.grownBy wr (some g))) (fun i _ _ => n - (intOf i).toNat)
  case atStart => exact ⟨1, by omega, by omega, rfl, H1, Lib.hid (grown_refl _ _)⟩
  case round =>
    clear H1
    obtain ⟨k, hk1, hk, rfl, ho, hg⟩ := hrel
    obtain ⟨wo, rfl⟩ : ∃ wo : World, wo = wr := ⟨_, rfl⟩
    by_cases hkn : k < n
    · obtain ⟨ps1, ps2, ps3⟩ := pos_split c (k := k) HN.out (by rw [HL.out]; exact hkn)
      have hxb := HN.out k (by rw [HL.out]; exact hkn)
      have HP : Hid ((outF rs c k 8).length = k) := Lib.hid (outF_len c HN.out k (by rw [HL.out]; omega))
      have hb8 : Hid (∀ j, j < k → -1 ≤ ((outF rs c k 8).getD j f0).2.1 ∧ ((outF rs c k 8).getD j f0).2.1 ≤ 8) := Lib.hid fun j hj => by
        have := mem_outF (g_mem (xs := outF rs c k 8) (i := j) (by rw [HP.out]; exact hj)); omega
      rw [rawF_cons rs c hkn] at ho
      obtain ⟨P, hP⟩ : ∃ P, outF rs c k 8 = P := ⟨_, rfl⟩
      obtain ⟨t, ht⟩ : ∃ t, rs.getD k 0 = t := ⟨_, rfl⟩
      obtain ⟨q, hq⟩ : ∃ q, posF rs c k = q := ⟨_, rfl⟩
      obtain ⟨R, hR⟩ : ∃ R, rawF rs c (k + 1) n = R := ⟨_, rfl⟩
      rw [hP] at ps2 ps3 ho HP hb8
      rw [ht] at ps2 ps3 ho hxb
      rw [hq] at ps1 ps2 ps3
      rw [hR] at ho
      have HR := Lib.hid (show R.length = n - (k + 1) by rw [← hR, rawF_len])
      have NX := Lib.hid (show outF rs c (k + 1) 8 ++ rawF rs c (k + 1) n = insF P (-1, t, c + (k : Int)) R q by rw [ps2, hR]; simp [insF])
      have P3 := Lib.hid ps3
      have ST := Lib.hid (show P ++ (-1, t, c + (k : Int)) :: R = insF P (-1, t, c + (k : Int)) R k by rw [← HP.out, insF_top])
      rw [ST.out] at ho
      clear hP ht hq hR ps2 ps3
      go_wp2_with fail
      go_loopw [9] (fun j wr => ∃ m : Nat, q ≤ m ∧ m ≤ k ∧ j = .int .i64 m ∧ Hid (OwnF B wr (.slice (some ⟨g, 0, none⟩) n cap) (insF P (-1, t, c + (k : Int)) R m)) ∧ Hid (w.grownBy wr (some g))) (fun j _ => (intOf j).toNat)
      case atStart => exact ⟨k, by omega, by omega, rfl, ho, hg⟩
      case round =>
        clear ho hg
        obtain ⟨m, hqm, hmk, rfl, hi, hg⟩ := hrel
        obtain ⟨wi, rfl⟩ : ∃ wi : World, wi = wr := ⟨_, rfl⟩
        by_cases hm0 : 0 < m
        · have hm0' : (0 : Int) < m := by omega
          have IL := Lib.hid (show (insF P (-1, t, c + (k : Int)) R m).length = n by rw [insF_len, HP.out, HR.out]; omega)
          obtain ⟨⟨c0, c1, c2⟩, fz, hB, hlt, -, -, -⟩ := hi.out.cell m (by rw [IL.out]; omega)
          obtain ⟨⟨d0, d1, d2⟩, -, -, -, -, -, -⟩ := hi.out.cell (m - 1) (by rw [IL.out]; omega)
          rw [insF_at _ _ _ (by rw [HP.out]; exact hmk)] at c0 c1 c2
          rw [insF_before _ _ _ (by rw [HP.out]; exact hmk) (by omega)] at d0 d1 d2
          have PB := hb8.out (m - 1) (by omega)
          have PS := P3.out (m - 1) (by omega)
          obtain ⟨f, hf⟩ : ∃ f, P.getD (m - 1) f0 = f := ⟨_, rfl⟩
          obtain ⟨x', y', z'⟩ := f
          rw [hf] at d0 d1 d2 PB PS
          have HF := Lib.hid hf
          simp only at c0 c1 c2 d0 d1 d2 PB PS
          clear hf
          have D0 : wi.drew.cell? ⟨g, m * 3, none⟩ = some (.int .i64 (-1)) := c0
          have D1 : wi.drew.cell? ⟨g, m * 3 + 1, none⟩ = some (.int .i64 t) := c1
          have D2 : wi.drew.cell? ⟨g, m * 3 + 2, none⟩ = some (.int .i64 (c + (k : Int))) := c2
          have E0 : wi.drew.cell? ⟨g, (m - 1) * 3, none⟩ = some (.int .i64 x') := d0
          have E1 : wi.drew.cell? ⟨g, (m - 1) * 3 + 1, none⟩ = some (.int .i64 y') := d1
          have E2 : wi.drew.cell? ⟨g, (m - 1) * 3 + 2, none⟩ = some (.int .i64 z') := d2
          have i0 : (0 : Int) ≤ (m : Int) := by omega
          have i1 : (m : Int) < n := by omega
          have i2 : (0 : Int) ≤ (m : Int) - 1 := by omega
          have i3 : (m : Int) - 1 < n := by omega
          have i4 : IntKind.i64.wrap ((m : Int) - 1) = (m : Int) - 1 := IntWalk.i64_in _ (by omega)
          have i5 : ((m : Int) - 1).toNat = m - 1 := by omega
          have i6 : IntKind.i64.wrap (t - y') = t - y' := IntWalk.i64_in _ (by omega)
          have i7 : m - 1 < n := by omega
          have i8 : (1 : Int) ≤ (m : Int) := by omega
          have i9 : (m : Int) < (n : Int) + 1 := by omega
          have iA : (m : Int) ≤ (n : Int) := by omega
          have iB : ¬ (m : Int) - 1 < 0 := by omega
          have b0 : -1 ≤ t ∧ t ≤ 8 := by omega
          go_wp2_with fail
          go_region_held3 (fun w' => w'.cell? ⟨g, m * 3, none⟩ = some (.int .i64 (-1)) ∧ w'.cell? ⟨g, m * 3 + 1, none⟩ = some (.int .i64 t) ∧ w'.cell? ⟨g, m * 3 + 2, none⟩ = some (.int .i64 (c + (k : Int))) ∧ w'.cell? ⟨g, (m - 1) * 3, none⟩ = some (.int .i64 x') ∧ w'.cell? ⟨g, (m - 1) * 3 + 1, none⟩ = some (.int .i64 y') ∧ w'.cell? ⟨g, (m - 1) * 3 + 2, none⟩ = some (.int .i64 z')) (first | go_keep | exact ⟨ex, ey, ez, fx, fy, fz'⟩)
            (first | (go_at_call 50; refine (cmpF_any _ (-1) t (c + (k : Int)) x' y' z' b0.1 b0.2 PB.1 PB.2).mono ?_; rintro e w5 ⟨rfl, g5⟩; have ex := g5.cell D0 (by simp); have ey := g5.cell D1 (by simp); have ez := g5.cell D2 (by simp); have fx := g5.cell E0 (by simp); have fy := g5.cell E1 (by simp); have fz' := g5.cell E2 (by simp)))
          have I5 := OwnF.grown hi.out (show wi.grownBy w5 none from grown_trans (gDrew (grown_refl wi none)) g5)
          have G5 := Lib.hid (grown_trans hg.out (grown_some (row := some g) (show wi.grownBy w5 none from grown_trans (gDrew (grown_refl wi none)) g5)))
          clear g5 hi hg c0 c1 c2 d0 d1 d2 D0 D1 D2 E0 E1 E2 fz
          by_cases hty : t < y'
          · have hd : t - y' < 0 := by omega
            obtain ⟨-, fz, -, -, -, -, -⟩ := I5.cell m (by rw [IL.out]; omega)
            obtain ⟨g1, e1, -, -, -, -, -, J1, j1⟩ := OwnF.put I5 (show m < _ by rw [IL.out]; omega) x' y' z'
            simp only [Option.some.injEq, Addr.mk.injEq, and_true] at e1
            subst e1
            obtain ⟨g2, e2, -, -, -, -, -, J2, j2⟩ := OwnF.put J1 (show m - 1 < _ by rw [List.length_set, IL.out]; omega) (-1) t (c + (k : Int))
            simp only [Option.some.injEq, Addr.mk.injEq, and_true] at e2
            subst e2
            have SW := insF_swap P (-1, t, c + (k : Int)) R (j := m - 1) (by rw [HP.out]; omega)
            rw [show m - 1 + 1 = m by omega, HF.out] at SW
            rw [SW] at J2
            have O9 := Lib.hid (OwnF.grown J2 (gDrew (grown_refl _ none)))
            have G9 := Lib.hid (gDrew (grown_trans G5.out (grown_trans j1 j2)))
            clear I5 J1 J2 j1 j2 SW G5
            go_wp2_with fail
            go_region
            go_wp2
            go_roundw
            case rel => exact ⟨m - 1, by omega, by omega, by go_num, O9, G9⟩
            case measure => simp [intOf]; omega
          · have hd : ¬ t - y' < 0 := by omega
            have O9 := Lib.hid (show OwnF B w5 (.slice (some ⟨g, 0, none⟩) n cap) (outF rs c (k + 1) 8 ++ rawF rs c (k + 1) n) by rw [NX.out, show q = m by omega]; exact I5)
            clear I5 ex ey ez fx fy fz'
            go_wp2
            go_roundw
            case rel => exact ⟨k + 1, by omega, by omega, by go_num, O9, G5⟩
            case measure => simp [intOf]; omega
        · have hm : m = 0 := by omega
          subst hm
          have O9 := Lib.hid (show ∀ d, OwnF B (wi.drewN d) (.slice (some ⟨g, 0, none⟩) n cap) (outF rs c (k + 1) 8 ++ rawF rs c (k + 1) n) from fun d => by rw [NX.out, show q = 0 by omega]; exact OwnF.grown hi.out (grown_drewN _ _ _))
          have G9 := Lib.hid (show ∀ d, w.grownBy (wi.drewN d) (some g) from fun d => gDrewN hg.out d)
          clear hi hg
          go_wp2_with fail
          go_quiet (fail)
          go_wp2
          go_roundw
          case rel => exact ⟨k + 1, by omega, by omega, by go_num, Lib.hid (O9.out _), Lib.hid (G9.out _)⟩
          case measure => simp [intOf]; omega
    · have hkn' : k = n := by omega
      subst hkn'
      have O9 := ho.out
      rw [rawF_end, List.append_nil] at O9
      have OO := Lib.hid O9
      clear O9
      go_wp2
      go_end0
      exact ⟨rfl, OO.out, hg.out⟩
theorem insSort_zero (w : World) (ao : Option Addr) (cap : Nat) (f : Value) :
    Calls Try.prog 57 #[.slice ao 0 cap, .int .i64 0, .int .i64 0, f] w fun e w' => e = .returned (.tuple #[]) ∧ w = w' := by
  go_enter Try.func57, Try.ntmps57
  go_wp2_with fail
  go_loop [8, 9] (fun i _ => i = .int .i64 1) (fun _ _ => 0)
  case atStart => rfl
  case round =>
    subst hrel
    go_wp2
    go_end0
    exact ⟨rfl, rfl⟩
def SortPost (B : Nat) (w : World) (ao : Option Addr) (n cap : Nat) (rs : List Int) (c : Int) (e : Ending) (w' : World) : Prop :=
  e = .returned (.tuple #[]) ∧ OwnF B w' (.slice ao n cap) (outF rs c n 8) ∧ w.grownBy w' (Value.ownBlock (.slice ao n cap))
theorem stableF_any (B : Nat) (w : World) (ao : Option Addr) (n cap : Nat) (rs : List Int) (c : Int) (hN : NamesP rs) (hl : rs.length = n) (hn : n ≤ 8) (h : OwnF B w (.slice ao n cap) (rawF rs c 0 n)) :
    Calls Try.prog 56 #[.slice ao n cap, .int .i64 n, .func (.func 50) #[] #[]] w (SortPost B w ao n cap rs c) := by
  have HB := Lib.hid h
  have HN := Lib.hid hN
  have HL := Lib.hid hl
  clear h hN hl
  by_cases h0 : n = 0
  · subst h0
    have HB' := Lib.hid (show OwnF B w (.slice ao 0 cap) (outF rs c 0 8) by rw [outF_zero]; have := HB.out; rw [rawF_end] at this; exact this)
    clear HB
    go_enter Try.func56, Try.ntmps56
    go_wp2_with fail
    go_loop [7, 8] (fun p q => p = .int .i64 0 ∧ q = .int .i64 20) (fun _ _ => 0)
    case atStart => exact ⟨rfl, rfl⟩
    case round =>
      obtain ⟨rfl, rfl⟩ := hrel
      go_wp2_with fail
      refine (insSort_zero _ _ _ _).mono ?_
      rintro e w1 ⟨rfl, rfl⟩
      go_wp2_with fail
      go_loop [6] (fun p => p = .int .i64 20) (fun _ => 0)
      case atStart => rfl
      case round =>
        subst hrel
        go_wp2
        go_end0
        exact ⟨rfl, HB'.out, grown_refl _ _⟩
  · have h1 : (0 : Int) < n := by omega
    have h20 : ¬ (20 : Int) ≤ n := by omega
    have h21 : ¬ (20 : Int) < n := by omega
    have hao : ∃ g, ao = some ⟨g, 0, none⟩ := by
      rcases HB.out.2 with ⟨e, hz⟩ | ⟨g, cap', cur, e, _⟩
      · rw [rawF_len] at hz; omega
      · simp only [Value.slice.injEq] at e; exact ⟨g, e.1⟩
    obtain ⟨g, rfl⟩ := hao
    go_enter Try.func56, Try.ntmps56
    go_wp2_with fail
    go_loop [7, 8] (fun p q => p = .int .i64 0 ∧ q = .int .i64 20) (fun _ _ => 0)
    case atStart => exact ⟨rfl, rfl⟩
    case round =>
      obtain ⟨rfl, rfl⟩ := hrel
      go_wp2_with fail
      refine (insSort_any B _ _ _ _ rs c HN.out HL.out (by omega) hn HB.out).mono ?_
      rintro e w1 ⟨rfl, o1, g1⟩
      have O1 := Lib.hid o1
      have G1 := Lib.hid g1
      clear o1 g1 HB
      go_wp2_with fail
      go_loop [6] (fun p => p = .int .i64 20) (fun _ => 0)
      case atStart => rfl
      case round =>
        subst hrel
        go_wp2
        go_end0
        exact ⟨rfl, O1.out, G1.out⟩
theorem sortF_any (B : Nat) (w : World) (ao : Option Addr) (n cap : Nat) (rs : List Int) (c : Int) (hN : NamesP rs) (hl : rs.length = n) (hn : n ≤ 8) (h : OwnF B w (.slice ao n cap) (rawF rs c 0 n)) :
    Calls Try.prog 49 #[.slice ao n cap, .func (.func 50) #[] #[]] w (SortPost B w ao n cap rs c) := by
  go_enter Try.func49, Try.ntmps49
  go_wp2_with fail
  refine (stableF_any B _ _ _ _ rs c hN hl hn h).mono ?_
  rintro e w1 ⟨rfl, o1, g1⟩
  go_wp2_with fail
  go_end0
  exact ⟨rfl, o1, g1⟩
end Go.Proofs.Ytolifggjblfobaa
