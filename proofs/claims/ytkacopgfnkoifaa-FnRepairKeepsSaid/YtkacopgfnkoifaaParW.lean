/- The walks of FnParity, FnParityOrder, FnJoin, FnRepairKeeps. -/
import Derived.Test.YtkacopgfnkoifaaDrawR
import Derived.Test.YtkacopgfnkoifaaRepW
import Derived.Test.YtkacopgfnkoifaaRepS
import Derived.Test.YtkacopgfnkoifaaJoinS
import Derived.WalkKit
import Derived.Lib.Hide
import Derived.Deep.QuietTactic
import Derived.BigQuiet
namespace Go.Proofs.Ytkacopgfnkoifaa
open Go.RowKit
theorem sum_bound {rows : List (List Int)} {k : Nat} : ∀ n, (∀ i, i < n → OneP (rows.getD i [])) → 0 ≤ sumR rows k n ∧ sumR rows k n ≤ n * 990 := by
  intro n
  induction n with
  | zero => intro _; simp [sumR]
  | succ n ih =>
    intro h
    have h1 := ih fun i hi => h i (by omega)
    have h2 := h n (by omega)
    rw [sumR]
    split
    · rename_i hk
      have := h2.2.2 k hk
      omega
    · omega
set_option maxHeartbeats 4000000 in
theorem fnParity_walk (ao : Option Addr) (n cap : Nat) (w : World) (h1 : CodeAt w ao n cap) :
    Calls Try.prog 12 #[.slice ao n cap] w fun e w' => e = .returned (.bool true) ∧ w.grownBy w' none := by
  by_cases a : (1048576 : Int) < n
  · go_enter Try.func12, Try.ntmps12
    go_wp2
    go_ret
    exact ⟨rfl, grown_refl _ _⟩
  · go_enter Try.func12, Try.ntmps12
    go_wp2_with fail
    refine (drawPiecesParity_any _ _ _ _ h1).mono ?_
    rintro e w1 ⟨rows, a1, c1, rfl, t1, g1⟩
    obtain ⟨N, hN⟩ : ∃ N, rows.length = N := ⟨_, rfl⟩
    rw [hN] at t1 ⊢
    have hmx := TabAt.le t1
    go_wp2_with fail
    refine (piecesParity_any _ _ _ _ rows t1).mono ?_
    rintro e w2 ⟨a2, c2, rfl, o2, g2⟩
    go_wp2_with fail
    refine (piecesParityS_any _ _ _ _ rows (t1.grown g2)).mono ?_
    rintro e w3 ⟨a3, c3, rfl, o3, g3⟩
    have T2 := Lib.hid (OwnI.ints (OwnI.grown o2 g3)).1
    have T3 := Lib.hid (OwnI.ints o3).1
    have T1 := Lib.hid ((t1.grown g2).grown g3)
    have G3 := Lib.hid (grown_trans g1 (grown_trans g2 g3))
    obtain ⟨P, hP⟩ : ∃ P, parityL rows = P := ⟨_, rfl⟩
    obtain ⟨l, hl⟩ : ∃ l, P.length = l := ⟨_, rfl⟩
    rw [hP, hl] at T2 T3 ⊢
    have HN := Lib.hid hN
    have HP := Lib.hid hP
    have HL := Lib.hid hl
    clear o2 o3 t1 g1 g2 g3 hN hP hl
    by_cases hf : FullP rows
    case neg =>
      have l0 : l = 0 := by rw [← HL.out, ← HP.out, parityL_no hf]; rfl
      subst l0
      clear hf
      go_wp2_with fail
      refine (sameInts_any _ _ _ _ P _ _ _ P T2.out T3.out).mono ?_
      rintro e w4 ⟨rfl, d, rfl⟩
      rw [pb_true (p := P = P) rfl]
      go_wp2_with fail
      refine (sameInts_any _ _ _ _ P _ _ _ P (T2.out.grown (grown_drewN _ d _)) (T3.out.grown (grown_drewN _ d _))).mono ?_
      rintro e w5 ⟨rfl, d2, rfl⟩
      rw [pb_true (p := P = P) rfl]
      go_wp2_with fail
      go_ret
      exact ⟨rfl, gDrewN G3.out _⟩
    case pos =>
      have FP := Lib.hid hf
      have l3 : l = 3 := by rw [← HL.out, ← HP.out]; exact (parity_one hf).1
      subst l3
      have hN5 : N ≤ 5 := by have := hf.1.1.2; have := HN.out; omega
      have hN1 : 1 ≤ N := by have := hf.1.1.1; have := HN.out; omega
      clear hf
      go_wp2_with fail
      refine (sameInts_any _ _ _ _ P _ _ _ P T2.out T3.out).mono ?_
      rintro e w4 ⟨rfl, d, hd⟩
      rw [pb_true (p := P = P) rfl]
      have g4 : w3.grownBy w4 none := by rw [hd]; exact grown_drewN _ _ _
      have U1 := Lib.hid (T1.out.grown g4)
      have U2 := Lib.hid (T2.out.grown g4)
      have G4 := Lib.hid (grown_trans G3.out g4)
      clear hd g4 T1 T2 T3 G3
      go_wp2_with fail
      go_loop [6, 7, 8] (fun q u v => ∃ k : Nat, k ≤ 3 ∧ q = .int .i64 k) (fun q _ _ => 3 - (intOf q).toNat)
      case atStart => exact ⟨0, by omega, rfl⟩
      case round =>
        obtain ⟨k, hk, rfl⟩ := hrel
        by_cases hk3 : k < 3
        · have PD := Lib.hid (show P.getD k 0 = sumR rows k N % 991 by rw [← HP.out, ← HN.out]; exact parity_getD FP.out k hk3)
          have SB := Lib.hid (sum_bound (rows := rows) (k := k) N fun i hi => FP.out.row i (by rw [HN.out]; exact hi))
          go_wp2_with fail
          go_loop [7, 8] (fun s q => ∃ (i : Nat) (S : Int), i ≤ N ∧ q = .int .i64 i ∧ s = .int .i64 S ∧ 0 ≤ S ∧ S ≤ i * 990 ∧ Hid (S = sumR rows k i)) (fun _ q => N - (intOf q).toNat)
          case atStart => exact ⟨0, 0, by omega, rfl, rfl, by omega, by omega, Lib.hid rfl⟩
          case round =>
            obtain ⟨i, S, hi, rfl, rfl, s0, s1, hs⟩ := hrel
            by_cases hin : i < N
            · obtain ⟨b, off, ro, rc, rfl, cz, hrow⟩ := U1.out.at i hin
              have hone := FP.out.row i (by rw [HN.out]; exact hin)
              obtain ⟨row, hz⟩ : ∃ z, rows.getD i [] = z := ⟨_, rfl⟩
              rw [hz] at cz hrow hone
              rw [hone.1] at cz hrow
              obtain ⟨b2, off2, rfl, -, hcell⟩ := IntsAt.addr hrow (by omega)
              have cy := hcell k hk3
              have yb := one_getD hone k hk3
              have NS : Hid (S + row.getD k 0 = sumR rows k (i + 1)) := Lib.hid (by rw [sumR, hz, if_pos (by rw [hone.1]; exact hk3), hs.out])
              obtain ⟨y, hy⟩ : ∃ y, row.getD k 0 = y := ⟨_, rfl⟩
              rw [hy] at cy yb NS
              obtain ⟨y0, y1⟩ := yb
              clear hz hone hcell hrow hy hs
              go_wp2
              go_round
              case rel => exact ⟨i + 1, S + y, by omega, by go_num, rfl, by omega, by omega, NS⟩
              case measure => simp [intOf]; omega
            · have hin' : i = N := by omega
              obtain ⟨b, off, rfl, -, hcell⟩ := IntsAt.addr U2.out (by omega)
              have cy := hcell k hk3
              rw [PD.out] at cy
              have hS := hs.out
              rw [hin'] at hS
              rw [← hS] at cy
              have q0 : 0 ≤ S % 991 := Int.emod_nonneg _ (by omega)
              clear hcell hS hin' hs PD SB
              go_wp2
              go_round
              case rel => exact ⟨k + 1, by omega, by go_num⟩
              case measure => simp [intOf]; omega
        · go_wp2
          go_ret
          exact ⟨rfl, G4.out⟩
theorem rev_step (rows : List (List Int)) (k : Nat) (hk : k < rows.length) : (rows.reverse.take (rows.length - 1 - k)) ++ [rows.getD k []] = rows.reverse.take (rows.length - k) := by
  rw [show rows.length - k = (rows.length - 1 - k) + 1 by omega, List.take_succ_eq_append_getElem (by rw [List.length_reverse]; omega), List.getElem_reverse]
  congr 2
  rw [List.getD_eq_getElem?_getD, List.getElem?_eq_getElem hk, Option.getD_some]
  congr 1
  omega
/-- a row put behind the others -/
theorem Spine.push {w0 w w' : World} {v' : Value} {rows : List (List Int)} {vs : List Value} {v : Value} {ro : Option Addr} {rc : Nat} {r : List Int} (h : Spine w0 w v rows vs) (ho : Own 22 w0.heap.size w' v' (vs ++ [.slice ro r.length rc])) (hr : IntsAt w0 ro r.length rc r) (hg : w0.grownBy w' none) : Spine w0 w' v' (rows ++ [r]) (vs ++ [.slice ro r.length rc]) := by
  refine ⟨ho, by simp [h.len], fun i r' hi => ?_, hg⟩
  by_cases e : i < rows.length
  · rw [List.getElem?_append_left e] at hi
    obtain ⟨a, c, e1, e2⟩ := h.row i r' hi
    exact ⟨a, c, by rw [List.getElem?_append_left (by rw [h.len]; exact e)]; exact e1, e2⟩
  · rw [List.getElem?_append_right (by omega)] at hi
    have hi0 : i = rows.length := by
      have := (List.getElem?_eq_some_iff.1 hi).1
      simp at this; omega
    subst hi0
    simp at hi
    subst hi
    exact ⟨ro, rc, by rw [List.getElem?_append_right (by rw [h.len]; exact Nat.le_refl _)]; simp [h.len], hr⟩
set_option maxHeartbeats 4000000 in
theorem fnParityOrder_walk (ao : Option Addr) (n cap : Nat) (w : World) (h1 : CodeAt w ao n cap) :
    Calls Try.prog 13 #[.slice ao n cap] w fun e w' => e = .returned (.bool true) ∧ w.grownBy w' none := by
  by_cases a : (1048576 : Int) < n
  · go_enter Try.func13, Try.ntmps13
    go_wp2
    go_ret
    exact ⟨rfl, grown_refl _ _⟩
  · go_enter Try.func13, Try.ntmps13
    go_wp2_with fail
    refine (drawPiecesParity_any _ _ _ _ h1).mono ?_
    rintro e w1 ⟨rows, a1, c1, rfl, t1, g1⟩
    obtain ⟨N, hN⟩ : ∃ N, rows.length = N := ⟨_, rfl⟩
    rw [hN] at t1 ⊢
    have hmx := TabAt.le t1
    go_wp2_with fail
    refine (piecesParity_any _ _ _ _ rows t1).mono ?_
    rintro e w2 ⟨a2, c2, rfl, o2, g2⟩
    go_wp2_with fail
    refine (piecesParityS_any _ _ _ _ rows (t1.grown g2)).mono ?_
    rintro e w3 ⟨a3, c3, rfl, o3, g3⟩
    have T2 := Lib.hid (OwnI.ints (OwnI.grown o2 g3)).1
    have T3 := Lib.hid (OwnI.ints o3).1
    have T1 := Lib.hid ((t1.grown g2).grown g3)
    have G3 := Lib.hid (grown_trans g1 (grown_trans g2 g3))
    obtain ⟨P, hP⟩ : ∃ P, parityL rows = P := ⟨_, rfl⟩
    obtain ⟨l, hl⟩ : ∃ l, P.length = l := ⟨_, rfl⟩
    rw [hP, hl] at T2 T3 ⊢
    have HN := Lib.hid hN
    have HP := Lib.hid hP
    have HL := Lib.hid hl
    clear o2 o3 t1 g1 g2 g3 hN hP hl
    by_cases hf : FullP rows
    case neg =>
      have l0 : l = 0 := by rw [← HL.out, ← HP.out, parityL_no hf]; rfl
      subst l0
      clear hf
      go_wp2_with fail
      refine (sameInts_any _ _ _ _ P _ _ _ P T2.out T3.out).mono ?_
      rintro e w4 ⟨rfl, d, rfl⟩
      rw [pb_true (p := P = P) rfl]
      go_wp2_with fail
      refine (sameInts_any _ _ _ _ P _ _ _ P (T2.out.grown (grown_drewN _ d _)) (T3.out.grown (grown_drewN _ d _))).mono ?_
      rintro e w5 ⟨rfl, d2, rfl⟩
      rw [pb_true (p := P = P) rfl]
      go_wp2_with fail
      go_ret
      exact ⟨rfl, gDrewN G3.out _⟩
    case pos =>
      have FP := Lib.hid hf
      have l3 : l = 3 := by rw [← HL.out, ← HP.out]; exact (parity_one hf).1
      subst l3
      have hN5 : N ≤ 5 := by have := hf.1.1.2; have := HN.out; omega
      have hN1 : 1 ≤ N := by have := hf.1.1.1; have := HN.out; omega
      clear hf
      go_wp2_with fail
      refine (sameInts_any _ _ _ _ P _ _ _ P T2.out T3.out).mono ?_
      rintro e w4 ⟨rfl, d, hd⟩
      rw [pb_true (p := P = P) rfl]
      have g4 : w3.grownBy w4 none := by rw [hd]; exact grown_drewN _ _ _
      have U1 := Lib.hid (T1.out.grown g4)
      have U2 := Lib.hid (T2.out.grown g4)
      have G4 := Lib.hid (grown_trans G3.out g4)
      clear hd g4 T1 T2 T3 G3
      have O4 := (own_lit 22 w4 #[] (by simp))
      have S0 : Hid (∃ vs, Spine w4 (w4.alloc (.cells #[] 22)) (.slice (some ⟨w4.heap.size, 0, none⟩) 0 0) (rows.reverse.take (rows.length - N)) vs) := Lib.hid ⟨[], O4, by simp [HN.out], fun i r hi => by rw [HN.out, Nat.sub_self] at hi; simp at hi, grown_alloc _ _ _⟩
      clear O4
      go_wp2_with fail
      go_loopw [6, 7] (fun v q wr => ∃ k : Nat, k ≤ N ∧ q = .int .i64 ((k : Int) - 1) ∧ Hid (∃ vs, Spine w4 wr v (rows.reverse.take (rows.length - k)) vs)) (fun _ q _ => (intOf q + 1).toNat)
      case atStart => exact ⟨N, by omega, rfl, S0⟩
      case round =>
        clear S0
        obtain ⟨k, hk, rfl, hs⟩ := hrel
        obtain ⟨wo, rfl⟩ : ∃ wo : World, wo = wr := ⟨_, rfl⟩
        by_cases hk0 : 0 < k
        · obtain ⟨j, rfl⟩ : ∃ j, k = j + 1 := ⟨k - 1, by omega⟩
          obtain ⟨vs, S⟩ := hs.out
          obtain ⟨b, off, ro, rc, rfl, cz0, hrow⟩ := U1.out.at j (by omega)
          have cz := S.base.cell cz0 (by simp)
          have hone := FP.out.row j (by rw [HN.out]; omega)
          have hst := rev_step rows j (by rw [HN.out]; omega)
          rw [show rows.length - 1 - j = rows.length - (j + 1) by omega] at hst
          obtain ⟨row, hz⟩ : ∃ z, rows.getD j [] = z := ⟨_, rfl⟩
          rw [hz] at cz hrow hone hst
          have HROW := Lib.hid hrow
          rw [hone.1] at cz
          have HO := Lib.hid hone
          have HST := Lib.hid hst
          have HS := Lib.hid S
          have HVL := Lib.hid (show vs.length ≤ 5 by rw [S.len, List.length_take]; have := HN.out; omega)
          have e1 : ((j + 1 : Nat) : Int) - 1 = (j : Int) := by omega
          rw [e1]
          have j0 : (0 : Int) ≤ (j : Int) := by omega
          have j1 : (j : Int) < N := by omega
          have X1 := Lib.hid (S.own.grown (grown_alloc wo (.cells #[.slice ro 3 rc] 22) none))
          have Y1 := Lib.hid (one_lst wo (.slice ro 3 rc))
          have G1 := Lib.hid (gAlloc S.base (.cells #[.slice ro 3 rc] 22))
          have ZB := G1.out.size
          clear cz0 hz hrow hone hst S hs e1
          go_wp2_with (at_builtin; refine app_own 23 22 (.slice none 0 0) 24 rfl (.tmp 37) (.tmp 42) rfl Try.underlying23 info_introw rfl (by decide) X1.out Y1.out rfl rfl (fun u hu => by simp at hu; subst hu; rfl) ZB (by have := HVL.out; simp; omega) ?_; intro v9 w9 o9 g9; refine Hid.out ?_)
          show wpList _ _ _ _ _ _
          have G9 := grown_own G1.out X1.out g9 (Nat.le_refl _)
          have NS : Hid (∃ vs, Spine w4 w9 v9 (rows.reverse.take (rows.length - j)) vs) := Lib.hid ⟨vs ++ [.slice ro row.length rc], by
            rw [← HST.out]
            exact Spine.push HS.out (by rw [HO.out.1]; exact o9) HROW.out G9⟩
          clear o9 g9 G9 X1 Y1 G1 HS
          go_wp2
          go_roundw
          case rel => exact ⟨j, by omega, rfl, NS⟩
          case measure => simp [intOf]
        · obtain ⟨vs, S⟩ := hs.out
          have hk0' : k = 0 := by omega
          subst hk0'
          have SR := S.rows
          rw [show rows.reverse.take (rows.length - 0) = rows.reverse from List.take_of_length_le (by simp)] at SR
          obtain ⟨a5, c5, rfl, t5⟩ := SR
          rw [List.length_reverse, HN.out] at t5 ⊢
          have T5 := Lib.hid t5
          have G5 := Lib.hid (grown_trans G4.out S.base)
          have U5 := Lib.hid (U2.out.grown S.base)
          have PR := Lib.hid (show parityL rows.reverse = P by rw [parity_rev FP.out]; exact HP.out)
          clear S t5 hs
          go_wp2_with fail
          refine (piecesParity_any _ _ _ _ rows.reverse T5.out).mono ?_
          rintro e w6 ⟨a6, c6, rfl, o6, g6⟩
          rw [PR.out] at o6 ⊢
          rw [HL.out] at o6 ⊢
          have T6 := Lib.hid (OwnI.ints o6).1
          have U6 := Lib.hid (U5.out.grown g6)
          have G6 := Lib.hid (grown_trans G5.out g6)
          clear o6 g6
          go_wp2_with fail
          refine (sameInts_any _ _ _ _ P _ _ _ P T6.out U6.out).mono ?_
          rintro e w7 ⟨rfl, d, rfl⟩
          rw [pb_true (p := P = P) rfl]
          go_wp2_with fail
          go_ret
          exact ⟨rfl, gDrewN G6.out d⟩
set_option maxHeartbeats 4000000 in
theorem fnJoin_walk (ao : Option Addr) (n cap : Nat) (w : World) (h1 : CodeAt w ao n cap) :
    Calls Try.prog 17 #[.slice ao n cap] w fun e w' => e = .returned (.bool true) ∧ w.grownBy w' none := by
  by_cases a : (1048576 : Int) < n
  · go_enter Try.func17, Try.ntmps17
    go_wp2
    go_ret
    exact ⟨rfl, grown_refl _ _⟩
  go_enter Try.func17, Try.ntmps17
  go_wp2_with fail
  refine (drawPiecesJoin_any _ _ _ _ h1).mono ?_
  rintro e w1 ⟨rows, a1, c1, rfl, t1, g1⟩
  obtain ⟨N, hN⟩ : ∃ N, rows.length = N := ⟨_, rfl⟩
  rw [hN] at t1 ⊢
  have hmx := TabAt.le t1
  go_wp2_with fail
  refine (piecesJoin_any _ _ _ _ rows t1).mono ?_
  rintro e w2 ⟨a2, c2, rfl, o2, g2⟩
  go_wp2_with fail
  refine (piecesJoinS_any _ _ _ _ rows (t1.grown g2)).mono ?_
  rintro e w3 ⟨a3, c3, rfl, o3, g3⟩
  have T2 := Lib.hid (OwnI.ints (OwnI.grown o2 g3)).1
  have T3 := Lib.hid (OwnI.ints o3).1
  have T1 := Lib.hid ((t1.grown g2).grown g3)
  have G3 := Lib.hid (grown_trans g1 (grown_trans g2 g3))
  obtain ⟨P, hP⟩ : ∃ P, joinL rows = P := ⟨_, rfl⟩
  obtain ⟨l, hl⟩ : ∃ l, P.length = l := ⟨_, rfl⟩
  rw [hP, hl] at T2 T3 ⊢
  have HN := Lib.hid hN
  have HP := Lib.hid hP
  have HL := Lib.hid hl
  clear o2 o3 t1 g1 g2 g3 hN hP hl
  by_cases hj : JoinP rows
  case neg =>
    rw [pb_false hj]
    clear hj
    go_wp2_with fail
    refine (sameInts_any _ _ _ _ P _ _ _ P T2.out T3.out).mono ?_
    rintro e w4 ⟨rfl, d, rfl⟩
    rw [pb_true (p := P = P) rfl]
    go_wp2_with fail
    refine (sameInts_any _ _ _ _ P _ _ _ P (T2.out.grown (grown_drewN _ d _)) (T3.out.grown (grown_drewN _ d _))).mono ?_
    rintro e w5 ⟨rfl, d2, rfl⟩
    rw [pb_true (p := P = P) rfl]
    go_wp2_with fail
    go_ret
    exact ⟨rfl, gDrewN G3.out _⟩
  case pos =>
    rw [pb_true hj]
    have CP := Lib.hid (show cutL P = rows by rw [← HP.out, joinL_yes hj]; exact (joinP_iff.1 hj).2.2)
    have hlen : l ≤ 1000 := by
      have h2 := joinP_iff.1 hj
      have := h2.1.first.2
      rw [← HL.out, ← HP.out, joinL_yes hj, joinR_len h2.1 h2.2.1]; omega
    clear hj
    go_wp2_with fail
    refine (sameInts_any _ _ _ _ P _ _ _ P T2.out T3.out).mono ?_
    rintro e w4 ⟨rfl, d, hd⟩
    rw [pb_true (p := P = P) rfl]
    have g4 : w3.grownBy w4 none := by rw [hd]; exact grown_drewN _ _ _
    have U1 := Lib.hid (T1.out.grown g4)
    have U2 := Lib.hid (T2.out.grown g4)
    have G4 := Lib.hid (grown_trans G3.out g4)
    clear hd g4 T1 T2 T3 G3
    go_wp2_with fail
    refine (piecesCut_any _ _ _ _ P U2.out (by omega)).mono ?_
    rintro e w5 ⟨v5, rfl, o5, g5⟩
    rw [CP.out] at o5
    obtain ⟨a5, c5, rfl, t5⟩ := OwnR.shape o5
    rw [HN.out] at t5 ⊢
    have T5 := Lib.hid t5
    have U5 := Lib.hid (U1.out.grown g5)
    have G5 := Lib.hid (grown_trans G4.out g5)
    clear o5 t5 g5
    go_wp2_with fail
    refine (samePieces_same _ _ _ _ _ _ _ T5.out U5.out).mono ?_
    rintro e w6 ⟨rfl, d2, rfl⟩
    go_wp2_with fail
    go_ret
    exact ⟨rfl, gDrewN G5.out d2⟩
set_option maxHeartbeats 4000000 in
theorem fnRepairKeeps_walk (ao : Option Addr) (n cap : Nat) (w : World) (h1 : CodeAt w ao n cap) :
    Calls Try.prog 16 #[.slice ao n cap] w fun e w' => e = .returned (.bool true) ∧ w.grownBy w' none := by
  by_cases a : (1048576 : Int) < n
  · go_enter Try.func16, Try.ntmps16
    go_wp2
    go_ret
    exact ⟨rfl, grown_refl _ _⟩
  go_enter Try.func16, Try.ntmps16
  go_wp2_with fail
  refine (drawPiecesRepair_any _ _ _ _ h1).mono ?_
  rintro e w1 ⟨rows, par, a1, c1, ap, cp, rfl, t1, p1, g1⟩
  obtain ⟨N, hN⟩ : ∃ N, rows.length = N := ⟨_, rfl⟩
  obtain ⟨m, hm⟩ : ∃ m, par.length = m := ⟨_, rfl⟩
  rw [hN] at t1 ⊢
  rw [hm] at p1 ⊢
  have hmx := TabAt.le t1
  go_wp2_with fail
  refine (piecesRepair_any _ _ _ _ rows _ _ _ par t1 p1).mono ?_
  rintro e w2 ⟨v2, rfl, o2, g2⟩
  obtain ⟨a2, c2, rfl, t2⟩ := OwnR.shape o2
  go_wp2_with fail
  refine (piecesRepairS_any _ _ _ _ rows _ _ _ par (t1.grown g2) (p1.grown g2)).mono ?_
  rintro e w3 ⟨v3, rfl, o3, g3⟩
  obtain ⟨a3, c3, rfl, t3⟩ := OwnR.shape o3
  have T2 := Lib.hid (t2.grown g3)
  have T3 := Lib.hid t3
  have T1 := Lib.hid ((t1.grown g2).grown g3)
  have G3 := Lib.hid (grown_trans g1 (grown_trans g2 g3))
  obtain ⟨l, hl⟩ : ∃ l, (repL rows par).length = l := ⟨_, rfl⟩
  rw [hl] at T2 T3 ⊢
  have HN := Lib.hid hN
  have HL := Lib.hid hl
  clear o2 o3 t1 t2 t3 p1 g1 g2 g3 hN hl hm
  by_cases hj : RepP rows par
  case neg =>
    rw [pb_false hj]
    clear hj
    go_wp2_with fail
    refine (samePieces_same _ _ _ _ _ _ _ T2.out T3.out).mono ?_
    rintro e w4 ⟨rfl, d, rfl⟩
    go_wp2_with fail
    refine (samePieces_same _ _ _ _ _ _ _ (T2.out.grown (grown_drewN _ d _)) (T3.out.grown (grown_drewN _ d _))).mono ?_
    rintro e w5 ⟨rfl, d2, rfl⟩
    go_wp2_with fail
    go_ret
    exact ⟨rfl, gDrewN G3.out _⟩
  case pos =>
    rw [pb_true hj]
    have RP := Lib.hid hj
    have lN : l = N := by rw [← HL.out, repL_yes hj, reps_len, HN.out]
    have hN5 : N ≤ 5 := by have := hj.1.1.2; have := HN.out; omega
    have ROW := Lib.hid (show ∀ i, i < N → (repL rows par).getD i [] = repRow rows par i from fun i hi => by
      rw [repL_yes hj, List.getD_eq_getElem?_getD, List.getElem?_map, List.getElem?_range (by rw [HN.out]; exact hi)]; rfl)
    subst lN
    clear hj
    go_wp2_with fail
    refine (samePieces_same _ _ _ _ _ _ _ T2.out T3.out).mono ?_
    rintro e w4 ⟨rfl, d, hd⟩
    have g4 : w3.grownBy w4 none := by rw [hd]; exact grown_drewN _ _ _
    have U1 := Lib.hid (T1.out.grown g4)
    have U2 := Lib.hid (T2.out.grown g4)
    have G4 := Lib.hid (grown_trans G3.out g4)
    clear hd g4 T1 T2 T3 G3
    go_wp2_with fail
    go_loopw [9] (fun q wr => ∃ i : Nat, i ≤ l ∧ q = .int .i64 i ∧ Hid (∃ d, wr = w4.drewN d)) (fun q _ => l - (intOf q).toNat)
    case atStart => exact ⟨0, by omega, rfl, Lib.hid ⟨0, rfl⟩⟩
    case round =>
      obtain ⟨i, hi, rfl, hd⟩ := hrel
      have gr := drewN_grown hd.out none
      by_cases hin : i < l
      · obtain ⟨b, off, ro, rc, rfl, cz, hrow⟩ := (U1.out.grown gr).at i hin
        obtain ⟨b', off', ro', rc', rfl, cy, hrow'⟩ := (U2.out.grown gr).at i hin
        have hone := repRow_one RP.out i (by rw [HN.out]; exact hin)
        have hcase := RP.out.1.2 i (by rw [HN.out]; exact hin)
        have HRR : repRow rows par i = if (rows.getD i []).length = 0 then combR (-1) par rows rows.length else rows.getD i [] := rfl
        rw [ROW.out i hin] at cy hrow'
        rw [hone.1] at cy hrow'
        obtain ⟨row, hz⟩ : ∃ z, rows.getD i [] = z := ⟨_, rfl⟩
        obtain ⟨k, hk⟩ : ∃ k, row.length = k := ⟨_, rfl⟩
        rw [hz, hk] at cz hrow
        rw [hz, hk] at HRR
        rw [hz] at hcase
        have i0 : (0 : Int) ≤ (i : Int) := by omega
        have i1 : (i : Int) < l := by omega
        by_cases hk0 : k = 0
        · subst hk0
          clear hone hcase HRR hz hk hrow hrow' gr
          go_wp2_with fail
          go_quiet (fail)
          go_wp2
          go_roundw
          case rel => exact ⟨i + 1, by omega, by go_num, drewN_more hd _⟩
          case measure => simp [intOf]; omega
        · have k3 : k = 3 := by
            rcases hcase with e | e
            · omega
            · have := e.1; omega
          rw [if_neg hk0] at HRR
          subst k3
          rw [HRR] at hrow'
          have HA := Lib.hid hrow
          have HB := Lib.hid hrow'
          clear hone hcase HRR hz hk hrow hrow' gr hk0
          go_wp2_with fail
          go_quiet (with_reducible exact drawn2 (sameInts_any _ _ _ _ row _ _ _ row (HB.out.grown (grown_drewN _ _ _)) (HA.out.grown (grown_drewN _ _ _))) (congrArg Value.bool (pb_true rfl)))
          go_wp2
          go_roundw
          case rel => exact ⟨i + 1, by omega, by go_num, drewN_more hd _⟩
          case measure => simp [intOf]; omega
      · have GG := Lib.hid (grown_trans G4.out gr)
        clear gr
        go_wp2
        go_ret
        exact ⟨rfl, GG.out⟩
end Go.Proofs.Ytkacopgfnkoifaa
