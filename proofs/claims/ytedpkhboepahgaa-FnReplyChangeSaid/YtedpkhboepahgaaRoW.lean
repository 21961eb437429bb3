/- The walks of FnReplyOpen, FnReplyChange. -/
import Derived.Test.YtedpkhboepahgaaDrawRO
import Derived.Test.YtedpkhboepahgaaRoP
import Derived.WalkKit
import Derived.Lib.Hide
import Derived.Deep.QuietTactic
import Derived.BigQuiet
namespace Go.Proofs.Ytedpkhboepahgaa
open Go.RowKit
theorem another_any (x y : Int) (w : World) (hx : 0 ≤ x ∧ x ≤ 990) (hy : 0 ≤ y ∧ y ≤ 988) :
    Calls Try.prog 26 #[.int .i64 x, .int .i64 y] w fun e w' => e = .returned (.int .i64 ((x + 1 + y) % 991)) ∧ w = w' := by
  obtain ⟨hx0, hx1⟩ := hx
  obtain ⟨hy0, hy1⟩ := hy
  have E : Hid (∀ z : Int, z = (x + 1 + y % 990) % 991 → z = (x + 1 + y) % 991) := Lib.hid (fun z e => by omega)
  go_enter Try.func26, Try.ntmps26
  go_wp2
  go_ret
  exact ⟨by rw [E.out _ rfl]; rfl, rfl⟩
set_option maxHeartbeats 2000000 in
theorem fnReplyOpen_walk (ao : Option Addr) (n cap : Nat) (w : World) (h1 : CodeAt w ao n cap) :
    Calls Try.prog 5 #[.slice ao n cap] w fun e w' => e = .returned (.bool true) ∧ w.grownBy w' none := by
  by_cases a : (1048576 : Int) < n
  · go_enter Try.func5, Try.ntmps5
    go_wp2
    go_ret
    exact ⟨rfl, grown_refl _ _⟩
  · go_enter Try.func5, Try.ntmps5
    go_wp2_with fail
    refine (drawReplyOpen_any _ _ _ _ h1).mono ?_
    rintro e w1 ⟨ks, ys, ka, kn, kc, ya, yn, yc, rfl, i1, j1, g1, -, -⟩
    have I1 := Lib.hid i1
    have J1 := Lib.hid j1
    have G1 := Lib.hid g1
    clear i1 j1 g1
    go_wp2_with fail
    refine (replyOpen_any _ _ _ _ ks _ _ _ ys I1.out J1.out).mono ?_
    rintro e w2 ⟨a2, c2, rfl, o2, g2⟩
    have I2 := Lib.hid (I1.out.grown g2)
    have J2 := Lib.hid (J1.out.grown g2)
    go_wp2_with fail
    refine (replyOpenS_any _ _ _ _ ks _ _ _ ys I2.out J2.out).mono ?_
    rintro e w3 ⟨a3, c3, rfl, o3, g3⟩
    obtain ⟨L, hL⟩ : ∃ L, roR ks ys = L := ⟨_, rfl⟩
    have HL := Lib.hid hL
    rw [hL] at o2 o3 ⊢
    obtain ⟨K, hK⟩ : ∃ K, L.length = K := ⟨_, rfl⟩
    have HK := Lib.hid hK
    rw [hK] at o2 o3 ⊢
    obtain ⟨b, hb⟩ : ∃ b, pb (RoP ks ys) = b := ⟨_, rfl⟩
    have HB := Lib.hid hb
    rw [hb]
    have bb : (b != b) = false := by cases b <;> rfl
    have bb2 : (b == b) = true := by cases b <;> rfl
    have O2 := Lib.hid (OwnI.grown o2 g3)
    have O3 := Lib.hid o3
    have I3 := Lib.hid (I2.out.grown g3)
    have J3 := Lib.hid (J2.out.grown g3)
    have G3 := Lib.hid (grown_trans G1.out (grown_trans g2 g3))
    clear o2 o3 g2 g3 hL hK hb I1 I2 J1 J2
    go_wp2_with fail
    refine (sameInts_any _ _ _ _ L _ _ _ L O2.out.ints.1 O3.out.ints.1).mono ?_
    rintro e w4 ⟨rfl, d4⟩
    rw [pb_true (p := L = L) rfl]
    have g4 := drewN_grown d4 none
    have O4 := Lib.hid (OwnI.grown O2.out g4)
    have P4 := Lib.hid (OwnI.grown O3.out g4)
    have I4 := Lib.hid (I3.out.grown g4)
    have J4 := Lib.hid (J3.out.grown g4)
    have G4 := Lib.hid (grown_trans G3.out g4)
    clear g4 d4 O2 O3 I3 J3 G3 G1
    cases b with
    | false =>
      go_wp2_with fail
      refine (sameInts_any _ _ _ _ L _ _ _ L O4.out.ints.1 P4.out.ints.1).mono ?_
      rintro e w5 ⟨rfl, d5⟩
      rw [pb_true (p := L = L) rfl]
      have GG := Lib.hid (grown_trans G4.out (drewN_grown d5 none))
      clear d5
      go_wp2_with fail
      go_ret
      exact ⟨rfl, GG.out⟩
    | true =>
      have SP := Lib.hid (pb_iff.1 HB.out)
      have hkn : ks.length = kn := I4.out.len
      have hyn : yn = 6 := by have := J4.out.len; have := SP.out.1.2.2; omega
      have hk3 : kn ≤ 3 := by have := SP.out.1.1.2; omega
      subst hyn
      have HN := Lib.hid hkn
      have LB := Lib.hid SP.out.1.2.1
      have L6 := Lib.hid SP.out.1.2.2
      have PK := Lib.hid SP.out.1.1
      have A0 := Lib.hid (show IntsAt (w4.alloc (.cells #[] 3)) ya 6 yc (onAll ys (ks.take 0)) from J4.out.grown (grown_alloc _ _ none))
      have N0 := Lib.hid (own_nil w4.heap.size w4 (Nat.le_refl _))
      have G0 := Lib.hid (grown_alloc w4 (.cells #[] 3) none)
      have km := RowAt.max I4.out
      have kl := RowAt.le I4.out
      clear hkn
      go_wp2_with fail
      go_loopw [9, 10, 11] (fun x bk q wr => ∃ j : Nat, ∃ zs : List Int, ∃ a c, j ≤ kn ∧ q = .int .i64 j ∧ x = .slice a 6 c ∧ zs.length = j ∧ Hid (zs = ks.reverse.take j) ∧ Hid (IntsAt wr a 6 c (onAll ys (ks.take j))) ∧ Hid (OwnI w4.heap.size wr bk zs) ∧ Hid (w4.grownBy wr none)) (fun _ _ q _ => kn - (intOf q).toNat)
      case atStart => exact ⟨0, [], ya, yc, by omega, rfl, rfl, rfl, Lib.hid rfl, A0, N0, G0⟩
      case round =>
        clear A0 N0 G0
        obtain ⟨j, zs, a, c, hj, rfl, rfl, hzl, hz, hx, hb, hg⟩ := hrel
        have HZL := Lib.hid hzl
        have LP := Lib.hid (onAll_list LB.out (ks.take j))
        clear hzl
        by_cases hlt : j < kn
        · obtain ⟨kb, koff, rfl, hkb, hc⟩ := IntsAt.addr I4.out (by omega)
          have ck0 := hc j hlt
          have cr0 := hc (kn - 1 - j) (by omega)
          have kr := PK.out.1 j (by have := HN.out; omega)
          have NX := Lib.hid (onAll_step (xs := ys) (ks := ks) (j := j) (by have := HN.out; omega))
          have rv := rev_getD (xs := ks) (j := j) (by have := HN.out; omega)
          obtain ⟨k, hk⟩ : ∃ k, ks.getD j 0 = k := ⟨_, rfl⟩
          rw [hk] at ck0 kr NX
          obtain ⟨r, hr⟩ : ∃ r, ks.getD (kn - 1 - j) 0 = r := ⟨_, rfl⟩
          rw [HN.out, hr] at rv
          rw [hr] at cr0
          have NZ := Lib.hid (show ks.reverse.take (j + 1) = zs ++ [r] by rw [take_getD (by rw [List.length_reverse]; have := HN.out; omega), rv, hz.out])
          have KR := Lib.hid kr
          have ck := hg.out.cell ck0 (by simp)
          have CR := Lib.hid cr0
          clear hc hk kr hr rv ck0 cr0
          go_wp2_with fail
          refine (maskOn_any _ _ _ _ (onAll ys (ks.take j)) k hx.out LP.out KR.out).mono ?_
          rintro e w5 ⟨a5, c5, rfl, o5, g5⟩
          rw [onL_len, onAll_len, L6.out] at o5 ⊢
          rw [← NX.out] at o5
          have X5 := Lib.hid o5
          have B5 := Lib.hid (OwnI.grown hb.out g5)
          have BT := Lib.hid (fun k e => (World.ownsRow.lt hb.out k e).2)
          have G5 := Lib.hid (gAlloc (grown_trans hg.out g5) (.cells #[.int .i64 r] 3))
          have cr := (grown_trans hg.out g5).cell CR.out (by simp)
          clear o5 g5 hx hg hb ck
          have i0 : (0 : Int) ≤ (kn : Int) - 1 - (j : Int) := by omega
          have i1 : (kn : Int) - 1 - (j : Int) < (kn : Int) := by omega
          have i2 : ((kn : Int) - 1 - (j : Int)).toNat = kn - 1 - j := by omega
          go_wp2_with (at_builtin; refine app_ints rfl (.tmp 71) (.tmp 80) rfl (OwnI.grown B5.out (grown_alloc _ _ none)) (one_int _ _) rfl rfl G5.out.size (by rw [HZL.out]; simp; omega) ?_; intro v6 w6 o6 g6; refine Hid.out ?_)
          show wpList _ _ _ _ _ _
          have X6 := Lib.hid (OwnI.row (OwnI.grown X5.out (grown_alloc _ (.cells #[.int .i64 r] 3) none)) g6 BT.out).ints.1
          have G6 := Lib.hid (grown_own G5.out (OwnI.grown B5.out (grown_alloc _ _ none)) g6 (Nat.le_refl _))
          have B6 := Lib.hid o6
          clear o6 g6 X5 B5 BT G5
          go_wp2
          go_roundw
          case rel => exact ⟨j + 1, zs ++ [r], a5, c5, by omega, by go_num, rfl, by simp [HZL.out], Lib.hid NZ.out.symm, X6, B6, G6⟩
          case measure => simp [intOf]; omega
        · have hjk : j = kn := by omega
          subst hjk
          have E := Lib.hid (show onAll ys (ks.take j) = onAll ys ks by rw [List.take_of_length_le (by have := HN.out; omega)])
          have EZ := Lib.hid (show zs = ks.reverse by rw [hz.out, List.take_of_length_le (by rw [List.length_reverse]; have := HN.out; omega)])
          have RL := Lib.hid (show openR (onAll ys ks) = L by rw [← HL.out, roR_yes SP.out.1])
          have RO := Lib.hid (show pb (OpenP (onAll ys ks)) = true from pb_true SP.out.2)
          have RV := Lib.hid (show roR ks.reverse ys = L by rw [← HL.out]; exact roR_rev SP.out.1)
          have RB := Lib.hid (show pb (RoP ks.reverse ys) = true from pb_true (roP_rev SP.out))
          obtain ⟨ba, bc, rfl, -, -⟩ := OwnI.shape hb.out
          have BI := Lib.hid (show IntsAt wr ba zs.length bc ks.reverse by rw [← EZ.out]; exact hb.out.ints.1)
          have XI := Lib.hid (show IntsAt wr a 6 c (onAll ys ks) by rw [← E.out]; exact hx.out)
          have YI := Lib.hid (J4.out.grown hg.out)
          have OI := Lib.hid (OwnI.grown O4.out hg.out)
          have GG := Lib.hid (grown_trans G4.out hg.out)
          clear hz hx hb hg LP E
          rw [HZL.out] at BI ⊢
          go_wp2_with fail
          refine (letterOpen_any _ _ _ _ (onAll ys ks) XI.out).mono ?_
          rintro e w5 ⟨a5, c5, rfl, o5, g5⟩
          rw [RL.out] at o5 ⊢
          rw [RO.out]
          rw [HK.out] at o5 ⊢
          have O5 := Lib.hid o5
          have BI5 := Lib.hid (BI.out.grown g5)
          have YI5 := Lib.hid (YI.out.grown g5)
          have OI5 := Lib.hid (OwnI.grown OI.out g5)
          have G5 := Lib.hid (grown_trans GG.out g5)
          clear o5 g5
          go_wp2_with fail
          refine (replyOpen_any _ _ _ _ ks.reverse _ _ _ ys BI5.out YI5.out).mono ?_
          rintro e w6 ⟨a6, c6, rfl, o6, g6⟩
          rw [RV.out] at o6 ⊢
          rw [RB.out]
          rw [HK.out] at o6 ⊢
          have O6 := Lib.hid o6
          have P6 := Lib.hid (OwnI.grown O5.out g6)
          have OI6 := Lib.hid (OwnI.grown OI5.out g6)
          have G6 := Lib.hid (grown_trans G5.out g6)
          clear o6 g6
          go_wp2_with fail
          refine (sameInts_any _ _ _ _ L _ _ _ L P6.out.ints.1 OI6.out.ints.1).mono ?_
          rintro e w7 ⟨rfl, g7⟩
          rw [pb_true (p := L = L) rfl]
          replace g7 := drewN_grown g7 none
          have O7 := Lib.hid (OwnI.grown O6.out g7)
          have OI7 := Lib.hid (OwnI.grown OI6.out g7)
          have G7 := Lib.hid (grown_trans G6.out g7)
          clear g7
          go_wp2_with fail
          refine (sameInts_any _ _ _ _ L _ _ _ L O7.out.ints.1 OI7.out.ints.1).mono ?_
          rintro e w8 ⟨rfl, g8⟩
          rw [pb_true (p := L = L) rfl]
          replace g8 := drewN_grown g8 none
          have G8 := Lib.hid (grown_trans G7.out g8)
          clear g8
          go_wp2_with fail
          go_ret
          exact ⟨rfl, G8.out⟩
set_option maxHeartbeats 2000000 in
theorem fnReplyChange_walk (ao : Option Addr) (n cap : Nat) (bo : Option Addr) (m cap' : Nat) (w : World) (h1 : CodeAt w ao n cap) (_h2 : CodeAt w bo m cap') :
    Calls Try.prog 6 #[.slice ao n cap, .slice bo m cap'] w fun e w' => e = .returned (.bool true) ∧ w.grownBy w' none := by
  by_cases a : (1048576 : Int) < n
  · go_enter Try.func6, Try.ntmps6
    go_wp2
    go_ret
    exact ⟨rfl, grown_refl _ _⟩
  by_cases b : (1048576 : Int) < m
  · go_enter Try.func6, Try.ntmps6
    go_wp2
    go_ret
    exact ⟨rfl, grown_refl _ _⟩
  · go_enter Try.func6, Try.ntmps6
    go_wp2_with fail
    refine (drawReplyOpen_any _ _ _ _ h1).mono ?_
    rintro e w1 ⟨ks, ys, ka, kn, kc, ya, yn, yc, rfl, i1, j1, g1, -, -⟩
    have I1 := Lib.hid i1
    have J1 := Lib.hid j1
    have G1 := Lib.hid g1
    clear i1 j1 g1
    go_wp2_with fail
    refine (replyOpen_any _ _ _ _ ks _ _ _ ys I1.out J1.out).mono ?_
    rintro e w2 ⟨a2, c2, rfl, o2, g2⟩
    have I2 := Lib.hid (I1.out.grown g2)
    have J2 := Lib.hid (J1.out.grown g2)
    go_wp2_with fail
    refine (replyOpenS_any _ _ _ _ ks _ _ _ ys I2.out J2.out).mono ?_
    rintro e w3 ⟨a3, c3, rfl, o3, g3⟩
    obtain ⟨L, hL⟩ : ∃ L, roR ks ys = L := ⟨_, rfl⟩
    have HL := Lib.hid hL
    rw [hL] at o2 o3 ⊢
    obtain ⟨K, hK⟩ : ∃ K, L.length = K := ⟨_, rfl⟩
    have HK := Lib.hid hK
    rw [hK] at o2 o3 ⊢
    obtain ⟨b, hb⟩ : ∃ b, pb (RoP ks ys) = b := ⟨_, rfl⟩
    have HB := Lib.hid hb
    rw [hb]
    have bb : (b != b) = false := by cases b <;> rfl
    have bb2 : (b == b) = true := by cases b <;> rfl
    have O2 := Lib.hid (OwnI.grown o2 g3)
    have O3 := Lib.hid o3
    have I3 := Lib.hid (I2.out.grown g3)
    have J3 := Lib.hid (J2.out.grown g3)
    have G3 := Lib.hid (grown_trans G1.out (grown_trans g2 g3))
    clear o2 o3 g2 g3 hL hK hb I1 I2 J1 J2
    go_wp2_with fail
    refine (sameInts_any _ _ _ _ L _ _ _ L O2.out.ints.1 O3.out.ints.1).mono ?_
    rintro e w4 ⟨rfl, d4⟩
    rw [pb_true (p := L = L) rfl]
    have g4 := drewN_grown d4 none
    have O4 := Lib.hid (OwnI.grown O2.out g4)
    have P4 := Lib.hid (OwnI.grown O3.out g4)
    have I4 := Lib.hid (I3.out.grown g4)
    have J4 := Lib.hid (J3.out.grown g4)
    have G4 := Lib.hid (grown_trans G3.out g4)
    clear g4 d4 O2 O3 I3 J3 G3 G1
    cases b with
    | false =>
      go_wp2_with fail
      refine (sameInts_any _ _ _ _ L _ _ _ L O4.out.ints.1 P4.out.ints.1).mono ?_
      rintro e w5 ⟨rfl, d5⟩
      rw [pb_true (p := L = L) rfl]
      have GG := Lib.hid (grown_trans G4.out (drewN_grown d5 none))
      clear d5
      go_wp2_with fail
      go_ret
      exact ⟨rfl, GG.out⟩
    | true =>
      have SP := Lib.hid (pb_iff.1 HB.out)
      have hyn : yn = 6 := by have := J4.out.len; have := SP.out.1.2.2; omega
      subst hyn
      have LB := Lib.hid SP.out.1.2.1
      have L6 := Lib.hid SP.out.1.2.2
      obtain ⟨k, hk⟩ : ∃ k, m % 6 = k := ⟨_, rfl⟩
      have hk6 : k < 6 := by omega
      have hkz : (m : Int) % 6 = (k : Int) := by omega
      have hkt : (m : Int).tmod 6 = (k : Int) := by rw [Int.tmod_eq_emod_of_nonneg (by omega)]; exact hkz
      have hy := LB.out.2 k (by have := L6.out; omega)
      obtain ⟨y, hyk⟩ : ∃ y, ys.getD k 0 = y := ⟨_, rfl⟩
      rw [hyk] at hy
      obtain ⟨z, hz⟩ : ∃ z, (y + 1 + (n : Int) % 989) % 991 = z := ⟨_, rfl⟩
      have NO := Lib.hid (change_no SP.out hk6 (z := z) (by omega) (by rw [hyk]; omega))
      have PB := Lib.hid (pb_false NO.out)
      have N0 := Lib.hid (own_nil w4.heap.size w4 (Nat.le_refl _))
      have HY := Lib.hid hyk
      have HZ := Lib.hid hz
      have YR := Lib.hid hy
      clear hk hyk hz hy
      go_wp2_with (at_builtin; refine app_ints rfl (.tmp 66) (.tmp 67) rfl N0.out (J4.out.grown (grown_alloc _ _ none)) rfl rfl (grown_alloc w4 _ none).size (by rw [L6.out]; simp) ?_; intro v5 w5 o5 g5; refine Hid.out ?_)
      show wpList _ _ _ _ _ _
      have G5 := Lib.hid (grown_own (grown_alloc w4 (.cells #[] 3) none) N0.out g5 (Nat.le_refl _))
      have o6 := own_eq o5 (show ys = [] ++ ys from rfl)
      obtain ⟨a5, c5, rfl, -, -⟩ := OwnI.shape o6
      rw [L6.out] at o6 ⊢
      obtain ⟨g, e1, -, b9, -⟩ := OwnI.at o6 (by rw [L6.out]; omega)
      subst e1
      obtain ⟨cz, fz, -, hset⟩ := ints_at1 o6 k (by rw [L6.out]; omega)
      rw [HY.out] at cz
      have O7 := Lib.hid (hset z)
      have G7 := Lib.hid (gSet (grown_trans G4.out G5.out) (p := ⟨g, k, none⟩) (by have := G4.out.size; simp; omega) (.int .i64 z))
      have I7 := Lib.hid (I4.out.grown (gSet G5.out (p := ⟨g, k, none⟩) b9 (.int .i64 z)))
      clear o5 g5 o6 hset
      go_wp2_with (go_at_call 26; refine (another_any _ _ _ YR.out (by omega)).mono ?_; rintro e w' ⟨rfl, rfl⟩; rw [HZ.out])
      refine (replyOpen_any _ _ _ _ ks _ _ _ (ys.set k z) I7.out O7.out.ints.1).mono ?_
      rintro e w8 ⟨a8, c8, rfl, o8, g8⟩
      rw [PB.out]
      have G8 := Lib.hid (grown_trans G7.out g8)
      clear o8 g8
      go_wp2_with fail
      go_ret
      exact ⟨rfl, G8.out⟩
end Go.Proofs.Ytedpkhboepahgaa
