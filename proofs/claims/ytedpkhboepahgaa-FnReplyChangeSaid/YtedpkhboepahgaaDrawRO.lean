/- Drawn: keys and a body. -/
import Derived.Test.YtedpkhboepahgaaROpen
import Derived.Test.YtedpkhboepahgaaDrawL
import Derived.WalkKit
import Derived.Lib.Hide
import Derived.Deep.QuietTactic
import Derived.BigQuiet
namespace Go.Proofs.Ytedpkhboepahgaa
open Go.RowKit
def DrawROPost (w : World) (e : Ending) (w' : World) : Prop :=
  ∃ ks ys : List Int, ∃ ao n c bo m c', e = .returned (.tuple #[.slice ao n c, .slice bo m c']) ∧ IntsAt w' ao n c ks ∧ IntsAt w' bo m c' ys ∧ w.grownBy w' none ∧ ks.length ≤ 6 ∧ ys.length ≤ 7
theorem packR_list (l : List Int) : ListP (packR l) ∧ (packR l).length ≤ 6 := by
  by_cases h : PackP l
  · rw [packR_yes h]; exact ⟨packL_list h, by rw [packL_len h.2]; omega⟩
  · rw [packR_no h]; exact ⟨⟨by simp, fun j hj => by simp at hj⟩, by simp⟩
theorem ints123 (w : World) : IntsAt (w.alloc (.cells #[.int .i64 1, .int .i64 2, .int .i64 3] 3)) (some ⟨w.heap.size, 0, none⟩) 3 3 [1, 2, 3] := by
  obtain ⟨ao, cap, e, h, -⟩ := Own.shape (own_lit 3 w #[.int .i64 1, .int .i64 2, .int .i64 3] (by simp))
  simp only [Value.slice.injEq] at e
  obtain ⟨rfl, -, rfl⟩ := e
  exact h
set_option maxHeartbeats 4000000 in
theorem drawReplyOpen_any (w : World) (ao : Option Addr) (n cap : Nat) (hco : CodeAt w ao n cap) :
    Calls Try.prog 22 #[.slice ao n cap] w (DrawROPost w) := by
  go_enter Try.func22, Try.ntmps22
  go_wp2_with fail
  refine (l6Open_any _ _ _ _ hco).mono ?_
  rintro e w1 ⟨rb, rfl, z1, g1, r1⟩
  have G1 := Lib.hid g1
  have Z1 := Lib.hid z1
  have RL := Lib.hid r1.lt
  have K1 := Lib.hid (own_nil w1.heap.size w1 (Nat.le_refl _))
  have GA := Lib.hid (grown_alloc w1 (.cells #[] 3) (some rb))
  have R1 := Lib.hid (r1.al (.cells #[] 3))
  clear g1 z1 r1
  go_wp2_with fail
  refine (l91List_any rb 0 4 (by omega) _ R1.out (by omega)).mono ?_
  rintro e w2 ⟨zs, a2, c2, l2, rfl, o2, g2, r2⟩
  have K2 := Lib.hid (OwnI.row K1.out g2 (fun k e => by simp at e; have := RL.out; omega))
  have G2 := Lib.hid (grown_trans GA.out g2)
  have O2 := Lib.hid o2
  have R2 := Lib.hid r2
  clear o2 g2 r2 K1 R1
  go_wp2_with fail
  refine (letterPackS_any _ _ _ _ zs (OwnI.ints O2.out).1).mono ?_
  rintro e w3 ⟨a3, c3, rfl, o3, g3⟩
  obtain ⟨bl, hbl⟩ := packR_list zs
  obtain ⟨ys, hys⟩ : ∃ ys, packR zs = ys := ⟨_, rfl⟩
  rw [hys] at o3 bl hbl ⊢
  have YL := Lib.hid bl
  have K3 := Lib.hid (OwnI.grown K2.out g3)
  have G3 := Lib.hid (grown_trans G2.out (grown_some (row := some rb) g3))
  have R3 := Lib.hid (R2.out.grown g3)
  have BB := Lib.hid (show w1.heap.size < w2.heap.size by have := G2.out.size; have := (World.ownsRow.lt K2.out w1.heap.size rfl).2; omega)
  have O3 := Lib.hid o3
  clear o3 g3 K2 O2 R2 hys bl
  go_wp2_with fail
  refine (pick_any _ 3 _ _ R3.out (by omega) (by omega) (by omega)).mono ?_
  rintro e w4 ⟨v4, rfl, k4, g4, r4⟩
  have K4 := Lib.hid (OwnI.row K3.out g4 (fun k e => by simp at e; have := RL.out; omega))
  have O4 := Lib.hid (OwnI.row O3.out g4 (fun k e => by simp at e; have := RL.out; have := BB.out; omega))
  have G4 := Lib.hid (grown_trans G3.out g4)
  have R4 := Lib.hid r4
  have SP4 : Hid (∃ Bb, OwnI Bb w4 (.slice a3 ys.length c3) ys ∧ w1.heap.size < Bb ∧ ∀ k, (Value.slice (some ⟨w1.heap.size, 0, none⟩) 0 0).ownBlock = some k → k < Bb) :=
    Lib.hid ⟨_, O4.out, BB.out, fun k e => by have := BB.out; simp [Value.ownBlock] at e; omega⟩
  clear g4 r4 K3 O3 G3 R3 O4
  have hv4 : (v4 : Int) ≤ 2 := by omega
  have YB := Lib.hid hbl
  go_wp2
  go_loopw [5, 6, 9, 10] (fun ku bu q x wr => ∃ j : Nat, ∃ zs ys : List Int, ∃ a c a' c', j ≤ 1 + v4 ∧ q = .int .i64 j ∧ ku = .slice a j c ∧ bu = .slice a' ys.length c' ∧ zs.length = j ∧ Hid (OwnI w1.heap.size wr ku zs) ∧ Hid (ListP ys ∧ ys.length ≤ 6) ∧ Hid (∃ Bb, OwnI Bb wr bu ys ∧ w1.heap.size < Bb ∧ ∀ k, ku.ownBlock = some k → k < Bb) ∧ Hid (w1.grownBy wr (some rb)) ∧ Hid (Rdr wr rb (401 + j * 2))) (fun _ _ q _ _ => 1 + v4 - (intOf q).toNat)
  case atStart => exact ⟨0, [], ys, _, _, _, _, by omega, rfl, rfl, rfl, rfl, K4, Lib.hid ⟨YL.out, YB.out⟩, SP4, G4, Lib.hid (R4.out.mono (by omega))⟩
  case round =>
    clear K4 SP4 G4 R4 YL YB hbl
    obtain ⟨j, zs, ys, a, c, a', c', hj, rfl, rfl, rfl, hzl, hk, hyl, hb, hg, hr⟩ := hrel
    have HZ := Lib.hid hzl
    clear hzl
    by_cases hlt : (j : Int) < 1 + (v4 : Int)
    · go_wp2_with fail
      refine (l91Good_any rb _ _ hr.out (by omega)).mono ?_
      rintro e w5 ⟨x, rfl, hx, g5, r5⟩
      obtain ⟨Bb, ob, b1, b2⟩ := hb.out
      have HX := Lib.hid (show 1 ≤ x ∧ x ≤ 996 from ⟨hx.1, by have := hx.2; omega⟩)
      have K5 := Lib.hid (OwnI.row hk.out g5 (fun k e => by simp at e; have := RL.out; omega))
      have O5 := Lib.hid (OwnI.row ob g5 (fun k e => by simp at e; have := RL.out; omega))
      have G5 := Lib.hid (gAlloc (grown_trans hg.out g5) (.cells #[.int .i64 x] 3))
      have R5 := Lib.hid (r5.al (.cells #[.int .i64 x] 3))
      have B2 := Lib.hid b2
      clear ob b1 b2 g5 r5 hx hk hb hg hr
      go_wp2_with (at_builtin; refine app_ints rfl (.tmp 30) (.tmp 32) rfl (OwnI.grown K5.out (grown_alloc _ _ none)) (one_int _ _) rfl rfl G5.out.size (by rw [HZ.out]; simp; omega) ?_; intro v6 w6 o6 g6; refine Hid.out ?_)
      show wpList _ _ _ _ _ _
      have O6 := Lib.hid (OwnI.row (OwnI.grown O5.out (grown_alloc _ (.cells #[.int .i64 x] 3) none)) g6 B2.out)
      have KB := World.ownsRow.lt K5.out
      have G6 := Lib.hid (grown_own G5.out (OwnI.grown K5.out (grown_alloc _ (.cells #[.int .i64 x] 3) none)) g6 (Nat.le_refl _))
      have R6 := Lib.hid (R5.out.row g6 (fun b hb e => by have := (KB b e.symm).1; have := RL.out; omega))
      have K6 := Lib.hid o6
      clear g6 o6 KB G5 R5 K5 O5 B2
      obtain ⟨a6, c6, rfl, -, -⟩ := OwnI.shape K6.out
      rw [show (zs ++ [x]).length = j + 1 by simp [HZ.out]] at K6 ⊢
      go_wp2_with fail
      refine (l2Off_any _ _ _ _ ys x (OwnI.ints O6.out).1 hyl.out.1 HX.out).mono ?_
      rintro e w7 ⟨a7, c7, rfl, o7, g7⟩
      have K7 := Lib.hid (OwnI.grown K6.out g7)
      have G7 := Lib.hid (grown_trans G6.out (grown_some (row := some rb) g7))
      have R7 := Lib.hid (R6.out.grown g7)
      have S7 : Hid (∃ Bb, OwnI Bb w7 (.slice a7 (offL ys x).length c7) (offL ys x) ∧ w1.heap.size < Bb ∧ ∀ k, (Value.slice a6 (j + 1) c6).ownBlock = some k → k < Bb) :=
        Lib.hid ⟨_, o7, by obtain ⟨g9, -, -, l9, l9', -⟩ := OwnI.at K6.out (by simp); omega, fun k e => (World.ownsRow.lt K6.out k e).2⟩
      have L7 := Lib.hid (show ListP (offL ys x) ∧ (offL ys x).length ≤ 6 from ⟨offL_list (by have := hyl.out.2; omega) x, by rw [offL_len]; exact hyl.out.2⟩)
      clear o7 g7 K6 G6 R6 O6 hyl
      obtain ⟨us, hus⟩ : ∃ us, offL ys x = us := ⟨_, rfl⟩
      rw [hus] at S7 L7 ⊢
      clear hus
      go_wp2
      go_roundw
      case rel => exact ⟨j + 1, zs ++ [x], us, a6, c6, a7, c7, by omega, by go_num, rfl, rfl, by simp [HZ.out], K7, L7, S7, G7, Lib.hid (R7.out.mono (by omega))⟩
      case measure => simp [intOf]; omega
    · have hj1 : j = 1 + v4 := by omega
      have BL := Lib.hid hyl.out.2
      clear hyl
      go_wp2_with fail
      refine (pick_any _ 12 _ _ hr.out (by omega) (by omega) (by omega)).mono ?_
      rintro e w5 ⟨v5, rfl, k5, g5, r5⟩
      obtain ⟨Bb, ob, b1, b2⟩ := hb.out
      have K5 := Lib.hid (OwnI.row hk.out g5 (fun k e => by simp at e; have := RL.out; omega))
      have O5 := Lib.hid (OwnI.row ob g5 (fun k e => by simp at e; have := RL.out; omega))
      have G5 := Lib.hid (grown_trans hg.out g5)
      have R5 := Lib.hid r5
      have B1 := Lib.hid b1
      have B2 := Lib.hid b2
      clear ob b1 b2 g5 r5 hk hb hg hr
      subst hj1
      have ZL := Lib.hid (show zs.length ≤ 3 by have := HZ.out; omega)
      have hd0 : v5 = 0 ∨ v5 = 1 ∨ v5 = 2 ∨ v5 = 3 ∨ 4 ≤ v5 := by omega
      rcases hd0 with rfl | rfl | rfl | rfl | hv5
      · by_cases hy0 : ys.length = 0
        · obtain rfl : ys = [] := List.eq_nil_of_length_eq_zero hy0
          clear hy0
          go_wp2
          go_ret2
          exact ⟨_, _, _, _, _, _, _, _, rfl, (OwnI.ints K5.out).1, (OwnI.ints O5.out).1, grown_new G1.out G5.out Z1.out, by have := ZL.out; omega, by have := BL.out; omega⟩
        · have q0 : (0 : Int) < (ys.length : Int) := by omega
          have q1 : (ys.length : Int) ≤ 1000000 := by have := BL.out; omega
          go_wp2_with fail
          refine (pick_any _ (ys.length : Int) _ _ R5.out (by omega) q1 (by omega)).mono ?_
          rintro e w6 ⟨v6, rfl, k6, g6, r6⟩
          go_wp2_with fail
          refine (l91Number_any rb _ _ r6 (by omega)).mono ?_
          rintro e w7 ⟨x, rfl, hx, g7, r7⟩
          have K7 := Lib.hid (OwnI.row (OwnI.row K5.out g6 (fun k e => by simp at e; have := RL.out; omega)) g7 (fun k e => by simp at e; have := RL.out; omega))
          have o7 := OwnI.row (OwnI.row O5.out g6 (fun k e => by simp at e; have := RL.out; have := B1.out; omega)) g7 (fun k e => by simp at e; have := RL.out; have := B1.out; omega)
          have G7 := Lib.hid (grown_trans G5.out (grown_trans g6 g7))
          obtain ⟨g, e1, -, b9, -⟩ := OwnI.at o7 (by omega)
          subst e1
          obtain ⟨cz, fz, -, hset⟩ := ints_at1 o7 v6 (by omega)
          have O8 := Lib.hid (hset x)
          have K8 := Lib.hid (Own.apart K7.out (grown_set w7 g v6 (.int .i64 x)) (.inr fun e => by have := B2.out g e; omega))
          have G8 := Lib.hid (gSet G7.out (p := ⟨g, v6, none⟩) (by have := B1.out; simp; omega) (.int .i64 x))
          clear g6 g7 r6 r7 hx hset o7 K7 G7
          have i6 : (0 : Int) ≤ (v6 : Int) := by omega
          go_wp2
          go_ret2
          exact ⟨zs, ys.set v6 x, _, _, _, _, _, _, rfl, (OwnI.ints (xs := zs) K8.out).1, (OwnI.ints O8.out).1, grown_new G1.out G8.out Z1.out, by have := ZL.out; omega, by have := BL.out; simp; omega⟩
      · go_wp2_with fail
        refine (pick_any _ (1 + (v4 : Int)) _ _ R5.out (by omega) (by omega) (by omega)).mono ?_
        rintro e w6 ⟨v6, rfl, k6, g6, r6⟩
        go_wp2_with fail
        refine (l91Is_any rb _ _ r6 (by omega)).mono ?_
        rintro e w7 ⟨x, rfl, hx, g7, r7⟩
        have k7 := OwnI.row (OwnI.row K5.out g6 (fun k e => by simp at e; have := RL.out; omega)) g7 (fun k e => by simp at e; have := RL.out; omega)
        have O7 := Lib.hid (OwnI.row (OwnI.row O5.out g6 (fun k e => by simp at e; have := RL.out; have := B1.out; omega)) g7 (fun k e => by simp at e; have := RL.out; have := B1.out; omega))
        have G7 := Lib.hid (grown_trans G5.out (grown_trans g6 g7))
        obtain ⟨g, e1, -, b9, -⟩ := OwnI.at k7 (by have := HZ.out; omega)
        subst e1
        obtain ⟨cz, fz, -, hset⟩ := ints_at1 k7 v6 (by have := HZ.out; omega)
        have K8 := Lib.hid (hset x)
        have O8 := Lib.hid (OwnI.row O7.out (grown_set w7 g v6 (.int .i64 x)) (fun k e => B2.out k e))
        have G8 := Lib.hid (gSet G7.out (p := ⟨g, v6, none⟩) (by simp; omega) (.int .i64 x))
        clear g6 g7 r6 r7 hx hset k7 O7 G7
        have i6 : (0 : Int) ≤ (v6 : Int) := by omega
        go_wp2
        go_ret2
        exact ⟨zs.set v6 x, ys, _, _, _, _, _, _, rfl, (OwnI.ints K8.out).1, (OwnI.ints O8.out).1, grown_new G1.out G8.out Z1.out, by have := ZL.out; simp; omega, by have := BL.out; omega⟩
      · have O6 := Lib.hid (Own.lower (OwnI.grown O5.out (grown_alloc w5 (.cells #[.int .i64 1] 3) none)) (Nat.le_of_lt B1.out))
        have G6 := Lib.hid (gAlloc G5.out (.cells #[.int .i64 1] 3))
        have AP : Hid ((Value.slice a (1 + v4) c).ownBlock = none ∨ (Value.slice a (1 + v4) c).ownBlock ≠ (Value.slice a' ys.length c').ownBlock) := Lib.hid (by
          cases e : (Value.slice a (1 + v4) c).ownBlock with
          | none => exact .inl rfl
          | some k => exact .inr fun e2 => by have h1 := B2.out k e; have h2 := (World.ownsRow.lt O5.out k e2.symm).1; omega)
        have K6 := Lib.hid (OwnI.grown K5.out (grown_alloc w5 (.cells #[.int .i64 1] 3) none))
        go_wp2_with (at_builtin; refine app_ints rfl (.tmp 63) (.tmp 64) rfl O6.out (one_int _ _) rfl rfl G6.out.size (by have := BL.out; simp; omega) ?_; intro v7 w7 o7 g7; refine Hid.out ?_)
        show wpList _ _ _ _ _ _
        have O7 := Lib.hid o7
        have K7 := Lib.hid (Own.apart K6.out g7 AP.out)
        have G7 := Lib.hid (grown_own G6.out O6.out g7 (Nat.le_refl _))
        clear o7 g7
        obtain ⟨a7, c7, rfl, -, -⟩ := OwnI.shape O7.out
        go_wp2
        go_ret2
        exact ⟨zs, ys ++ [1], _, _, _, _, _, _, rfl, (OwnI.ints (xs := zs) K7.out).1, (OwnI.ints O7.out).1, grown_new G1.out G7.out Z1.out, by have := ZL.out; omega, by have := BL.out; simp; omega⟩
      · have K6 := Lib.hid (OwnI.grown K5.out (grown_alloc w5 (.cells #[.int .i64 1, .int .i64 2, .int .i64 3] 3) none))
        have O6 := Lib.hid (OwnI.grown O5.out (grown_alloc w5 (.cells #[.int .i64 1, .int .i64 2, .int .i64 3] 3) none))
        have G6 := Lib.hid (gAlloc G5.out (.cells #[.int .i64 1, .int .i64 2, .int .i64 3] 3))
        go_wp2_with (at_builtin; refine app_ints rfl (.tmp 68) (.tmp 69) rfl K6.out (ints123 w5) rfl rfl G6.out.size (by have := ZL.out; simp; omega) ?_; intro v7 w7 o7 g7; refine Hid.out ?_)
        show wpList _ _ _ _ _ _
        have K7 := Lib.hid o7
        have O7 := Lib.hid (OwnI.row O6.out g7 B2.out)
        have G7 := Lib.hid (grown_own G6.out K6.out g7 (Nat.le_refl _))
        clear o7 g7
        obtain ⟨a7, c7, rfl, -, -⟩ := OwnI.shape K7.out
        go_wp2
        go_ret2
        exact ⟨zs ++ [1, 2, 3], ys, _, _, _, _, _, _, rfl, (OwnI.ints K7.out).1, (OwnI.ints O7.out).1, grown_new G1.out G7.out Z1.out, by have := ZL.out; simp; omega, by have := BL.out; omega⟩
      · have n0 : ((v5 : Int) == 0) = false := by simp; omega
        have n1 : ((v5 : Int) == 1) = false := by simp; omega
        have n2 : ((v5 : Int) == 2) = false := by simp; omega
        have n3 : ((v5 : Int) == 3) = false := by simp; omega
        go_wp2
        go_ret2
        exact ⟨_, _, _, _, _, _, _, _, rfl, (OwnI.ints K5.out).1, (OwnI.ints O5.out).1, grown_new G1.out G5.out Z1.out, by have := ZL.out; omega, by have := BL.out; omega⟩
end Go.Proofs.Ytedpkhboepahgaa
