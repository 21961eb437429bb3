/- Equal tables; the walks of FnCutSize and FnCutLong. -/
import Derived.Test.YtkacopgfnkoifaaCutS
import Derived.Test.YtkacopgfnkoifaaDrawL
import Derived.WalkKit
import Derived.Lib.Hide
import Derived.Deep.QuietTactic
import Derived.BigQuiet
namespace Go.Proofs.Ytkacopgfnkoifaa
open Go.RowKit
theorem drawn2 {P : Program} {f : FuncId} {args : Array Value} {w : World} {n : Nat} {v v' : Value}
    (h : Calls P f args (w.drewN n) fun e w' => e = .returned v ∧ ∃ d, w' = (w.drewN n).drewN d) (hv : v = v') : Calls P f args (w.drewN n) fun e w'' => e = .returned v' ∧ ∃ m, w'' = w.drewN m :=
  h.mono fun _ _ ⟨he, d, hd⟩ => ⟨hv ▸ he, by rw [hd]; exact drewN_more ⟨n, rfl⟩ d⟩
set_option maxHeartbeats 1000000 in
theorem samePieces_same (w : World) (ao : Option Addr) (n cap : Nat) (bo : Option Addr) (cap' : Nat) (rows : List (List Int)) (h : RowsAt w ao n cap rows) (h' : RowsAt w bo n cap' rows) :
    Calls Try.prog 27 #[.slice ao n cap, .slice bo n cap'] w fun e w' => e = .returned (.bool true) ∧ ∃ d, w' = w.drewN d := by
  have hm := TabAt.le h
  have HM := Lib.hid hm
  clear hm
  go_enter Try.func27, Try.ntmps27
  go_wp2
  go_loopw [5] (fun i wr => ∃ k : Nat, k ≤ n ∧ i = .int .i64 k ∧ Hid (∃ d, wr = w.drewN d)) (fun i _ => n - (intOf i).toNat)
  case atStart => exact ⟨0, Nat.zero_le _, rfl, ⟨0, rfl⟩⟩
  case round =>
    obtain ⟨k, hk, rfl, hd⟩ := hrel
    have hm := HM.out
    by_cases hlt : k < n
    · have gr : w.grownBy wr none := by
        obtain ⟨d, e⟩ := hd.out
        subst e
        exact grown_drewN _ _ _
      obtain ⟨b, off, ro, rc, rfl, cz, hr⟩ := (h.grown gr).at k hlt
      obtain ⟨b', off', ro', rc', rfl, cy, hr'⟩ := (h'.grown gr).at k hlt
      obtain ⟨row, hz⟩ : ∃ z, rows.getD k [] = z := ⟨_, rfl⟩
      obtain ⟨l, hll⟩ : ∃ l, row.length = l := ⟨_, rfl⟩
      rw [hz, hll] at cz cy hr hr'
      clear hz hll gr
      have i0 : (0 : Int) ≤ (k : Int) := by omega
      have i1 : (k : Int) < n := by omega
      go_wp2_with fail
      go_quiet (with_reducible exact drawn2 (sameInts_any _ _ _ _ row _ _ _ row (hr.grown (grown_drewN _ _ _)) (hr'.grown (grown_drewN _ _ _))) (congrArg Value.bool (pb_true rfl)))
      go_wp2
      go_roundw
      case rel => exact ⟨k + 1, by omega, by go_num, drewN_more hd _⟩
      case measure => simp [intOf]; omega
    · go_wp2
      go_ret
      exact ⟨rfl, hd.out⟩
set_option maxHeartbeats 1000000 in
theorem eqIntSS_same (w : World) (ao : Option Addr) (n cap : Nat) (bo : Option Addr) (cap' : Nat) (rows : List (List Int)) (h : RowsAt w ao n cap rows) (h' : RowsAt w bo n cap' rows) :
    Calls Try.prog 21 #[.slice ao n cap, .slice bo n cap'] w fun e w' => e = .returned (.bool true) ∧ ∃ d, w' = w.drewN d := by
  have hm := TabAt.le h
  have HM := Lib.hid hm
  clear hm
  go_enter Try.func21, Try.ntmps21
  go_wp2
  go_loopw [5] (fun i wr => ∃ k : Nat, k ≤ n ∧ i = .int .i64 k ∧ Hid (∃ d, wr = w.drewN d)) (fun i _ => n - (intOf i).toNat)
  case atStart => exact ⟨0, Nat.zero_le _, rfl, ⟨0, rfl⟩⟩
  case round =>
    obtain ⟨k, hk, rfl, hd⟩ := hrel
    have hm := HM.out
    by_cases hlt : k < n
    · have gr : w.grownBy wr none := by
        obtain ⟨d, e⟩ := hd.out
        subst e
        exact grown_drewN _ _ _
      obtain ⟨b, off, ro, rc, rfl, cz, hr⟩ := (h.grown gr).at k hlt
      obtain ⟨b', off', ro', rc', rfl, cy, hr'⟩ := (h'.grown gr).at k hlt
      obtain ⟨row, hz⟩ : ∃ z, rows.getD k [] = z := ⟨_, rfl⟩
      obtain ⟨l, hll⟩ : ∃ l, row.length = l := ⟨_, rfl⟩
      rw [hz, hll] at cz cy hr hr'
      clear hz hll gr
      have i0 : (0 : Int) ≤ (k : Int) := by omega
      have i1 : (k : Int) < n := by omega
      go_wp2_with fail
      go_quiet (with_reducible exact drawn2 (eqIntS_any _ _ _ _ row _ _ _ row (hr.grown (grown_drewN _ _ _)) (hr'.grown (grown_drewN _ _ _))) (congrArg Value.bool (pb_true rfl)))
      go_wp2
      go_roundw
      case rel => exact ⟨k + 1, by omega, by go_num, drewN_more hd _⟩
      case measure => simp [intOf]; omega
    · go_wp2
      go_ret
      exact ⟨rfl, hd.out⟩
set_option maxHeartbeats 2000000 in
theorem fnCutSize_walk (ao : Option Addr) (n cap : Nat) (w : World) (h1 : CodeAt w ao n cap) :
    Calls Try.prog 6 #[.slice ao n cap] w fun e w' => e = .returned (.bool true) ∧ w.grownBy w' none := by
  by_cases a : (1048576 : Int) < n
  · go_enter Try.func6, Try.ntmps6
    go_wp2
    go_ret
    exact ⟨rfl, grown_refl _ _⟩
  · go_enter Try.func6, Try.ntmps6
    go_wp2_with fail
    refine (drawPiecesCut_any _ _ _ _ h1).mono ?_
    rintro e w1 ⟨xs, a1, c1, l1, rfl, t1, g1⟩
    obtain ⟨N, hN⟩ : ∃ N, xs.length = N := ⟨_, rfl⟩
    rw [hN] at t1 l1 ⊢
    go_wp2_with fail
    refine (piecesCut_any _ _ _ _ xs t1 (by omega)).mono ?_
    rintro e w2 ⟨v2, rfl, o2, g2⟩
    obtain ⟨a2, c2, rfl, t2⟩ := OwnR.shape o2
    go_wp2_with fail
    refine (piecesCutS_any _ _ _ _ xs (t1.grown g2) (by omega)).mono ?_
    rintro e w3 ⟨v3, rfl, o3, g3⟩
    obtain ⟨a3, c3, rfl, t3⟩ := OwnR.shape o3
    obtain ⟨K, hK⟩ : ∃ K, (cutL xs).length = K := ⟨_, rfl⟩
    rw [hK] at t2 t3 ⊢
    have HK := Lib.hid hK
    have HN := Lib.hid hN
    have T1 := Lib.hid ((t1.grown g2).grown g3)
    have T2 := Lib.hid (t2.grown g3)
    have T3 := Lib.hid t3
    have G3 := Lib.hid (grown_trans g1 (grown_trans g2 g3))
    clear o2 o3 t1 t2 t3 g1 g2 g3 hK hN
    by_cases hK0 : K = 0
    case pos =>
      subst hK0
      go_wp2_with fail
      refine (samePieces_same _ _ _ _ _ _ _ T2.out T3.out).mono ?_
      rintro e w4 ⟨rfl, d, rfl⟩
      go_wp2_with fail
      refine (samePieces_same _ _ _ _ _ _ _ (T2.out.grown (grown_drewN _ d _)) (T3.out.grown (grown_drewN _ d _))).mono ?_
      rintro e w5 ⟨rfl, d2, rfl⟩
      go_wp2_with fail
      go_ret
      exact ⟨rfl, gDrewN G3.out _⟩
    case neg =>
      have HP : CutP xs := by
        refine Classical.byContradiction fun e => hK0 ?_
        rw [← HK.out, cutL_no e]; rfl
      have HC := Lib.hid HP
      have HE := Lib.hid (cutL_yes HP)
      have hKc : K = cutC N := by rw [← HK.out, HE.out, chunks_len, HN.out]
      have hK5 : K ≤ 5 := by rw [hKc, ← HN.out]; exact HP.2
      have hKN : (N + 3) / 3 = K := hKc.symm
      have HKC := Lib.hid hKc
      have k0 : ((K : Int) == 0) = false := by simp; omega
      clear HP hKc
      go_wp2_with fail
      refine (samePieces_same _ _ _ _ _ _ _ T2.out T3.out).mono ?_
      rintro e w4 ⟨rfl, d, hd⟩
      have g4 : w3.grownBy w4 none := by rw [hd]; exact grown_drewN _ _ _
      have U1 := Lib.hid (T1.out.grown g4)
      have U2 := Lib.hid (T2.out.grown g4)
      have G4 := Lib.hid (grown_trans G3.out g4)
      clear hd g4 T1 T2 T3 G3
      have ROW := Lib.hid (show ∀ i, i < K → ((cutL xs).getD i []).length = 3 from fun i hi => by
        rw [HE.out]
        unfold chunks
        rw [List.getD_eq_getElem?_getD, List.getElem?_map, List.getElem?_range (by rw [HN.out, ← HKC.out]; exact hi)]
        exact pieceAt_len _ _ (by rw [padL_len, HN.out, ← HKC.out]; omega))
      go_wp2_with fail
      go_loopw [6] (fun q wr => ∃ i : Nat, i ≤ K ∧ q = .int .i64 i ∧ wr = w4) (fun q _ => K - (intOf q).toNat)
      case atStart => exact ⟨0, by omega, rfl, rfl⟩
      case round =>
        obtain ⟨i, hi, rfl, rfl⟩ := hrel
        by_cases hin : i < K
        · obtain ⟨b, off, ro, rc, rfl, cz, hr⟩ := U2.out.at i hin
          rw [ROW.out i hin] at cz
          clear hr
          go_wp2
          go_roundw
          case rel => exact ⟨i + 1, by omega, by go_num, trivial⟩
          case measure => simp [intOf]; omega
        · have hKi : ((N : Int) + 3) / 3 = (K : Int) := by omega
          have k5 : decide ((K : Int) ≤ 5) = true := by simp; omega
          go_wp2
          go_ret
          exact ⟨rfl, G4.out⟩
end Go.Proofs.Ytkacopgfnkoifaa
