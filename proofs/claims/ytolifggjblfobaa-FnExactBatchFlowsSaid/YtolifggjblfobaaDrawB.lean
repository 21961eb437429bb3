/- Drawn batches. -/
import Derived.Test.YtolifggjblfobaaOpen
import Derived.Test.YtolifggjblfobaaBatI
import Derived.WalkKit
import Derived.Lib.Hide
import Derived.Deep.QuietTactic
import Derived.BigQuiet
import Derived.OwnWalk
namespace Go.Proofs.Ytolifggjblfobaa
open Go.RowKit
/-- append of ints, with the place of the new slice -/
theorem app_ints_at {ops : Array Oper} {rest : List Oper} {o : Oper} {a : Act} {Q : Exit → Act → World → Prop} {w : World} (hgd : o.guard = none) (s x : Operand)
    (ho : o.op = .call { callee := .builtin .append, args := #[s, x], argTypes := #[39, 39] })
    {B : Nat} {v : Value} {xs ys : List Int} (hown : OwnI B w v xs) {ao : Option Addr} {m c : Nat} (hr : IntsAt w ao m c ys) (hs : a.eval s = v) (hx : a.eval x = .slice ao m c)
    (hB : B ≤ w.heap.size) (hlen : xs.length + ys.length ≤ 2000000000)
    (h : ∀ v' w', OwnI B w' v' (xs ++ ys) → w.grownBy w' v.ownBlock → (v'.ownBlock = v.ownBlock ∨ v'.ownBlock = some w.heap.size) → wpList Try.prog ops Q rest (a.put o.dst v') w') : wpList Try.prog ops Q (o :: rest) a w := by
  refine app_own_at 39 3 (.int .i64 0) 8 hgd s x ho Try.underlying39 info_int rfl (by decide) hown hr hs hx (ints_one ys) hB (by simpa using hlen) fun v' w' h1 h2 h3 => h v' w' ?_ h2 h3
  unfold OwnI
  rw [List.map_append]
  exact h1
theorem one_int_at (w : World) (z : Int) (n : Nat) (h : w.heap.size = n) : IntsAt (w.alloc (.cells #[.int .i64 z] 3)) (some ⟨n, 0, none⟩) 1 1 [z] := h ▸ one_int w z
theorem OwnI.apart {B : Nat} {w w' : World} {v : Value} {xs : List Int} {row : Option Nat} (h : OwnI B w v xs) (hg : w.grownBy w' row) (hr : v.ownBlock = none ∨ v.ownBlock ≠ row) : OwnI B w' v xs := Own.apart h hg hr
def DrawBPost (w : World) (e : Ending) (w' : World) : Prop :=
  ∃ ss rs : List Int, ∃ c : Int, ∃ a1 c1 a2 c2, e = .returned (.tuple #[.slice a1 ss.length c1, .slice a2 rs.length c2, .int .i64 c]) ∧ ss.length ≤ 9 ∧ rs.length ≤ 9 ∧ 0 ≤ c ∧ c < 100 ∧ IntsAt w' a1 ss.length c1 ss ∧ IntsAt w' a2 rs.length c2 rs ∧ w.grownBy w' none
theorem drawB_post {B B' : Nat} {w w' : World} {u v : Value} {ss rs : List Int} {c : Int} (hu : OwnI B w' u ss) (hv : OwnI B' w' v rs) (h1 : ss.length ≤ 9) (h2 : rs.length ≤ 9) (h3 : 0 ≤ c) (h4 : c < 100) (hg : w.grownBy w' none) : DrawBPost w (.returned (.tuple #[u, v, .int .i64 c])) w' := by
  obtain ⟨a1, c1, rfl, i1, _⟩ := OwnI.shape hu
  obtain ⟨a2, c2, rfl, i2, _⟩ := OwnI.shape hv
  exact ⟨ss, rs, c, _, _, _, _, rfl, h1, h2, h3, h4, i1, i2, hg⟩
set_option maxHeartbeats 4000000 in
theorem drawBatchFlows_any (w : World) (ao : Option Addr) (n cap : Nat) (hco : CodeAt w ao n cap) :
    Calls Try.prog 30 #[.slice ao n cap] w (DrawBPost w) := by
  go_enter Try.func30, Try.ntmps30
  go_wp2_with fail
  refine (l6Open_any _ _ _ _ hco).mono ?_
  rintro e w1 ⟨rb, rfl, z1, g1, r1⟩
  have hrb := r1.lt
  have zz : (w1.alloc (.cells #[] 3)).heap.size = w1.heap.size + 1 := by simp
  have u0 := (own_nil w1.heap.size w1 (Nat.le_refl _)).grown (grown_alloc (w1.alloc (.cells #[] 3)) (.cells #[] 3) none)
  have v0 := own_nil w1.heap.size (w1.alloc (.cells #[] 3)) (by rw [zz]; omega)
  rw [zz] at v0
  have g0 := gAlloc (grown_alloc w1 (.cells #[] 3) (some rb)) (.cells #[] 3)
  have G1 := Lib.hid g1
  have r0 := (r1.al (.cells #[] 3)).al (.cells #[] 3)
  have S0 : Hid (SepF (.slice (some ⟨w1.heap.size, 0, none⟩) 0 0) (.slice (some ⟨w1.heap.size + 1, 0, none⟩) 0 0)) := Lib.hid fun k hk e => by simp [Value.ownBlock] at hk e; omega
  clear zz
  go_wp2_with fail
  refine (pick_any _ 7 0 _ r0 (by omega) (by omega) (by omega)).mono ?_
  rintro e w2 ⟨v2, rfl, k2, g2, r2⟩
  have u2 := OwnI.row u0 g2 (fun k e => by simp at e; omega)
  have v2' := OwnI.row v0 g2 (fun k e => by simp at e; omega)
  have g2' := grown_trans g0 g2
  clear u0 v0 g0 r0
  go_wp2_with fail
  refine (pick_any _ 12 1 _ r2 (by omega) (by omega) (by omega)).mono ?_
  rintro e w3 ⟨v3, rfl, k3, g3, r3⟩
  have U3 := Lib.hid (OwnI.row u2 g3 (fun k e => by simp at e; omega))
  have V3 := Lib.hid (OwnI.row v2' g3 (fun k e => by simp at e; omega))
  have G3 := Lib.hid (grown_trans g2' g3)
  clear u2 v2' g2' r2
  by_cases h0 : v3 = 0
  · subst h0
    go_wp2_with fail
    refine (pick_any _ 2 2 _ r3 (by omega) (by omega) (by omega)).mono ?_
    rintro e w4 ⟨v4, rfl, k4, g4, r4⟩
    have U4 := Lib.hid (OwnI.row U3.out g4 (fun k e => by simp at e; omega))
    have V4 := Lib.hid (OwnI.row V3.out g4 (fun k e => by simp at e; omega))
    have G4 := Lib.hid (grown_trans G3.out g4)
    have R4 := Lib.hid (r4.mono (show _ ≤ 3 + 2 * 0 by omega))
    obtain ⟨N, hN⟩ : ∃ N, v4 + 8 = N := ⟨_, rfl⟩
    have hN9 : N ≤ 9 := by omega
    have hN' : (8 : Int) + (v4 : Int) = (N : Int) := by omega
    clear r3 r4 g3 g4 U3 V3 G3
    go_wp2_with fail
    go_loopw [6, 7, 9] (fun u v i wr => ∃ k : Nat, ∃ xs ys : List Int, k ≤ N ∧ i = .int .i64 k ∧ Hid (xs.length = k) ∧ Hid (ys.length = k) ∧ Hid (OwnI w1.heap.size wr u xs) ∧ Hid (OwnI w1.heap.size wr v ys) ∧ Hid (SepF u v) ∧ Hid (w1.grownBy wr (some rb)) ∧ Hid (Rdr wr rb (3 + 2 * k))) (fun _ _ i _ => (N) - (intOf i).toNat)
    case atStart => exact ⟨0, [], [], by omega, rfl, Lib.hid rfl, Lib.hid rfl, U4, V4, S0, G4, R4⟩
    case round =>
      clear U4 V4 S0 G4 R4
      obtain ⟨k, xs, ys, hk, rfl, hx, hy, hu, hv, hs, hg, hr⟩ := hrel
      by_cases hlt : k < N
      · have hlt2 : (k : Int) < (N : Int) := by omega
        go_wp2_with fail
        refine (pick_any _ 8 _ _ hr.out (by omega) (by omega) (by omega)).mono ?_
        rintro e w2 ⟨v2, rfl, k2, g2, r2⟩
        have U2 := Lib.hid (OwnI.row hu.out g2 (fun k e => by simp at e; omega))
        have V2 := Lib.hid (OwnI.row hv.out g2 (fun k e => by simp at e; omega))
        have G2 := Lib.hid (grown_trans hg.out g2)
        have R2 := Lib.hid r2
        have Z2 := G2.out.size
        clear g2 r2 hu hv hg hr
        go_wp2_with (at_builtin; refine app_ints_at rfl (.tmp 27) (.tmp 30) rfl (OwnI.grown U2.out (by (repeat (with_reducible (first | refine gDrew ?_ | refine gDrewN ?_ _ | refine gAlloc ?_ _))); exact grown_refl _ _)) (one_int_at _ _ _ (by first | rfl | simp)) rfl rfl (by simp; omega) (by have := hx.out; simp; omega) ?_; intro v5 w5 o5 g5 s5; refine Hid.out ?_)
        show wpList _ _ _ _ _ _
        have G5 := Lib.hid (grown_own (grown_trans G2.out (grown_alloc _ _ _)) (OwnI.grown U2.out (grown_alloc w2 (.cells #[.int .i64 v2] 3) none)) g5 (Nat.le_refl _))
        have V5 := Lib.hid (OwnI.apart (OwnI.grown V2.out (grown_alloc w2 _ _)) g5 hs.out.other)
        have S5 := Lib.hid (SepF.step hs.out s5 (fun k hk => by have := (Own.bound V2.out k hk).2; simp; omega))
        have R5 := Lib.hid ((R2.out.al (.cells #[.int .i64 v2] 3)).row g5 (fun b hb e => by have := (Own.bound U2.out b e.symm).1; omega))
        have O5 := Lib.hid o5
        clear o5 g5 s5 U2 V2 G2 R2 hs
        go_wp2_with fail
        refine (pick_any _ 8 _ _ R5.out (by omega) (by omega) (by omega)).mono ?_
        rintro e w6 ⟨v6, rfl, k6, g6, r6⟩
        have U6 := Lib.hid (OwnI.row O5.out g6 (fun k e => by simp at e; omega))
        have V6 := Lib.hid (OwnI.row V5.out g6 (fun k e => by simp at e; omega))
        have G6 := Lib.hid (grown_trans G5.out g6)
        have R6 := Lib.hid r6
        have Z6 := G6.out.size
        clear g6 r6 O5 V5 G5 R5
        go_wp2_with (at_builtin; refine app_ints_at rfl (.tmp 32) (.tmp 35) rfl (OwnI.grown V6.out (by (repeat (with_reducible (first | refine gDrew ?_ | refine gDrewN ?_ _ | refine gAlloc ?_ _))); exact grown_refl _ _)) (one_int_at _ _ _ (by first | rfl | simp)) rfl rfl (by simp; omega) (by have := hy.out; simp; omega) ?_; intro v7 w7 o7 g7 s7; refine Hid.out ?_)
        show wpList _ _ _ _ _ _
        have G7 := Lib.hid (grown_own (grown_trans G6.out (grown_alloc _ _ _)) (OwnI.grown V6.out (grown_alloc w6 (.cells #[.int .i64 v6] 3) none)) g7 (Nat.le_refl _))
        have U7 := Lib.hid (OwnI.apart (OwnI.grown U6.out (grown_alloc w6 _ _)) g7 S5.out.symm.other)
        have S7 := Lib.hid (SepF.step S5.out.symm s7 (fun k hk => by have := (Own.bound U6.out k hk).2; simp; omega)).symm
        have R7 := Lib.hid (((R6.out.al (.cells #[.int .i64 v6] 3)).row g7 (fun b hb e => by have := (Own.bound V6.out b e.symm).1; omega)).mono (show _ ≤ 3 + 2 * (k + 1) by omega))
        have O7 := Lib.hid o7
        have X7 : Hid ((xs ++ [(v2 : Int)]).length = k + 1) := Lib.hid (by have := hx.out; simp; omega)
        have Y7 : Hid ((ys ++ [(v6 : Int)]).length = k + 1) := Lib.hid (by have := hy.out; simp; omega)
        clear o7 g7 s7 U6 V6 G6 R6 S5 hx hy
        go_wp2
        go_roundw
        case rel => exact ⟨k + 1, _, _, by omega, by go_num, X7, Y7, U7, O7, S7, G7, R7⟩
        case measure => simp [intOf]; omega
      · have hkN : k = N := by omega
        subst hkN
        by_cases hk0 : k = 0
        · subst hk0
          go_wp2_with fail
          refine (pick_any _ 100 3 _ hr.out (by omega) (by omega) (by omega)).mono ?_
          rintro e wZ ⟨vZ, rfl, kZ, gZ, rZ⟩
          have UZ := Lib.hid (OwnI.row hu.out gZ (fun k e => by simp at e; omega))
          have VZ := Lib.hid (OwnI.row hv.out gZ (fun k e => by simp at e; omega))
          have GZ := Lib.hid (grown_new G1.out (grown_trans hg.out gZ) z1)
          clear gZ rZ
          go_wp2_with fail
          go_ret3
          exact drawB_post UZ.out VZ.out (by have := hx.out; omega) (by have := hy.out; omega) (by omega) (by omega) GZ.out
        · have hk1 : (0 : Int) < k := by omega
          go_wp2_with fail
          refine (pick_any _ 20 _ _ hr.out (by omega) (by omega) (by omega)).mono ?_
          rintro e w2 ⟨v2, rfl, k2, g2, r2⟩
          have U2 := Lib.hid (OwnI.row hu.out g2 (fun k e => by simp at e; omega))
          have V2 := Lib.hid (OwnI.row hv.out g2 (fun k e => by simp at e; omega))
          have G2 := Lib.hid (grown_trans hg.out g2)
          have R2 := Lib.hid r2
          clear g2 r2 hu hv hg hr
          by_cases h20 : v2 = 0
          · subst h20
            go_wp2_with fail
            refine (pick_any _ (k : Int) _ _ R2.out (by omega) (by omega) (by omega)).mono ?_
            rintro e w8 ⟨v8, rfl, k8, g8, r8⟩
            go_wp2_with fail
            refine (pick_any _ 2 _ _ r8 (by omega) (by omega) (by omega)).mono ?_
            rintro e w9 ⟨v9, rfl, k9, g9, r9⟩
            have gg := grown_trans g8 g9
            have U9 := Lib.hid (OwnI.row U2.out gg (fun k e => by simp at e; omega))
            have v9' := OwnI.row V2.out gg (fun k e => by simp at e; omega)
            have G9 := Lib.hid (grown_trans G2.out gg)
            have R9 := Lib.hid r9
            clear gg g8 g9 r8 r9 U2 V2 G2 R2
            obtain ⟨va, vc, rfl, -, -⟩ := OwnI.shape v9'
            have hv8 : v8 < k := by omega
            obtain ⟨g, rfl, -, hBg, hgl, hc, hf, hset⟩ := OwnI.at v9' (by have := hy.out; omega)
            have c0 := hc v8 (by have := hy.out; omega)
            have f0' := hf v8
            have V10 := Lib.hid (hset v8 ((v9 : Int) * 9 - 1))
            have U10 := Lib.hid (OwnI.apart U9.out (grown_set w9 g v8 (.int .i64 ((v9 : Int) * 9 - 1))) hs.out.symm.other)
            have G10 := Lib.hid (gRow G9.out (grown_set w9 g v8 (.int .i64 ((v9 : Int) * 9 - 1))) (fun i hi e => by simp at e; omega))
            have R10 := Lib.hid (R9.out.set (p := ⟨g, v8, none⟩) (by show rb < g; omega) (.int .i64 ((v9 : Int) * 9 - 1)))
            have Y10 : Hid ((ys.set v8 ((v9 : Int) * 9 - 1)).length = k) := Lib.hid (by rw [List.length_set]; exact hy.out)
            have i0 : (0 : Int) ≤ (v8 : Int) := by omega
            have i1 : (v8 : Int) < k := by omega
            obtain ⟨zs, hzs⟩ : ∃ zs, ys.set v8 ((v9 : Int) * 9 - 1) = zs := ⟨_, rfl⟩
            rw [hzs] at V10 Y10
            have HYL := hy.out
            rw [HYL] at V10 ⊢
            clear hzs
            clear v9' hset hc hf U9 G9 R9
            go_wp2_with fail
            refine (pick_any _ 100 _ _ R10.out (by omega) (by omega) (by omega)).mono ?_
            rintro e wZ ⟨vZ, rfl, kZ, gZ, rZ⟩
            have UZ := Lib.hid (OwnI.row U10.out gZ (fun k e => by simp at e; omega))
            have VZ := Lib.hid (OwnI.row V10.out gZ (fun k e => by simp at e; omega))
            have GZ := Lib.hid (grown_new G1.out (grown_trans G10.out gZ) z1)
            clear gZ rZ
            go_wp2_with fail
            go_ret3
            exact drawB_post UZ.out VZ.out (by have := hx.out; omega) (by have := Y10.out; omega) (by omega) (by omega) GZ.out
          · have h20' : ((v2 : Int) == 0) = false := by simp; omega
            go_wp2_with fail
            refine (pick_any _ 100 _ _ R2.out (by omega) (by omega) (by omega)).mono ?_
            rintro e wZ ⟨vZ, rfl, kZ, gZ, rZ⟩
            have UZ := Lib.hid (OwnI.row U2.out gZ (fun k e => by simp at e; omega))
            have VZ := Lib.hid (OwnI.row V2.out gZ (fun k e => by simp at e; omega))
            have GZ := Lib.hid (grown_new G1.out (grown_trans G2.out gZ) z1)
            clear gZ rZ
            go_wp2_with fail
            go_ret3
            exact drawB_post UZ.out VZ.out (by have := hx.out; omega) (by have := hy.out; omega) (by omega) (by omega) GZ.out
  · have h0' : ((v3 : Int) == 0) = false := by simp; omega
    have R3 := Lib.hid (r3.mono (show _ ≤ 3 + 2 * 0 by omega))
    have hv2 : v2 < 7 := by omega
    clear r3 g3 g2
    go_wp2_with fail
    go_loopw [6, 7, 9] (fun u v i wr => ∃ k : Nat, ∃ xs ys : List Int, k ≤ v2 ∧ i = .int .i64 k ∧ Hid (xs.length = k) ∧ Hid (ys.length = k) ∧ Hid (OwnI w1.heap.size wr u xs) ∧ Hid (OwnI w1.heap.size wr v ys) ∧ Hid (SepF u v) ∧ Hid (w1.grownBy wr (some rb)) ∧ Hid (Rdr wr rb (3 + 2 * k))) (fun _ _ i _ => (v2) - (intOf i).toNat)
    case atStart => exact ⟨0, [], [], by omega, rfl, Lib.hid rfl, Lib.hid rfl, U3, V3, S0, G3, R3⟩
    case round =>
      clear U3 V3 S0 G3 R3
      obtain ⟨k, xs, ys, hk, rfl, hx, hy, hu, hv, hs, hg, hr⟩ := hrel
      by_cases hlt : k < v2
      · have hlt2 : (k : Int) < (v2 : Int) := by omega
        go_wp2_with fail
        refine (pick_any _ 8 _ _ hr.out (by omega) (by omega) (by omega)).mono ?_
        rintro e w2 ⟨v2, rfl, k2, g2, r2⟩
        have U2 := Lib.hid (OwnI.row hu.out g2 (fun k e => by simp at e; omega))
        have V2 := Lib.hid (OwnI.row hv.out g2 (fun k e => by simp at e; omega))
        have G2 := Lib.hid (grown_trans hg.out g2)
        have R2 := Lib.hid r2
        have Z2 := G2.out.size
        clear g2 r2 hu hv hg hr
        go_wp2_with (at_builtin; refine app_ints_at rfl (.tmp 27) (.tmp 30) rfl (OwnI.grown U2.out (by (repeat (with_reducible (first | refine gDrew ?_ | refine gDrewN ?_ _ | refine gAlloc ?_ _))); exact grown_refl _ _)) (one_int_at _ _ _ (by first | rfl | simp)) rfl rfl (by simp; omega) (by have := hx.out; simp; omega) ?_; intro v5 w5 o5 g5 s5; refine Hid.out ?_)
        show wpList _ _ _ _ _ _
        have G5 := Lib.hid (grown_own (grown_trans G2.out (grown_alloc _ _ _)) (OwnI.grown U2.out (grown_alloc w2 (.cells #[.int .i64 v2] 3) none)) g5 (Nat.le_refl _))
        have V5 := Lib.hid (OwnI.apart (OwnI.grown V2.out (grown_alloc w2 _ _)) g5 hs.out.other)
        have S5 := Lib.hid (SepF.step hs.out s5 (fun k hk => by have := (Own.bound V2.out k hk).2; simp; omega))
        have R5 := Lib.hid ((R2.out.al (.cells #[.int .i64 v2] 3)).row g5 (fun b hb e => by have := (Own.bound U2.out b e.symm).1; omega))
        have O5 := Lib.hid o5
        clear o5 g5 s5 U2 V2 G2 R2 hs
        go_wp2_with fail
        refine (pick_any _ 8 _ _ R5.out (by omega) (by omega) (by omega)).mono ?_
        rintro e w6 ⟨v6, rfl, k6, g6, r6⟩
        have U6 := Lib.hid (OwnI.row O5.out g6 (fun k e => by simp at e; omega))
        have V6 := Lib.hid (OwnI.row V5.out g6 (fun k e => by simp at e; omega))
        have G6 := Lib.hid (grown_trans G5.out g6)
        have R6 := Lib.hid r6
        have Z6 := G6.out.size
        clear g6 r6 O5 V5 G5 R5
        go_wp2_with (at_builtin; refine app_ints_at rfl (.tmp 32) (.tmp 35) rfl (OwnI.grown V6.out (by (repeat (with_reducible (first | refine gDrew ?_ | refine gDrewN ?_ _ | refine gAlloc ?_ _))); exact grown_refl _ _)) (one_int_at _ _ _ (by first | rfl | simp)) rfl rfl (by simp; omega) (by have := hy.out; simp; omega) ?_; intro v7 w7 o7 g7 s7; refine Hid.out ?_)
        show wpList _ _ _ _ _ _
        have G7 := Lib.hid (grown_own (grown_trans G6.out (grown_alloc _ _ _)) (OwnI.grown V6.out (grown_alloc w6 (.cells #[.int .i64 v6] 3) none)) g7 (Nat.le_refl _))
        have U7 := Lib.hid (OwnI.apart (OwnI.grown U6.out (grown_alloc w6 _ _)) g7 S5.out.symm.other)
        have S7 := Lib.hid (SepF.step S5.out.symm s7 (fun k hk => by have := (Own.bound U6.out k hk).2; simp; omega)).symm
        have R7 := Lib.hid (((R6.out.al (.cells #[.int .i64 v6] 3)).row g7 (fun b hb e => by have := (Own.bound V6.out b e.symm).1; omega)).mono (show _ ≤ 3 + 2 * (k + 1) by omega))
        have O7 := Lib.hid o7
        have X7 : Hid ((xs ++ [(v2 : Int)]).length = k + 1) := Lib.hid (by have := hx.out; simp; omega)
        have Y7 : Hid ((ys ++ [(v6 : Int)]).length = k + 1) := Lib.hid (by have := hy.out; simp; omega)
        clear o7 g7 s7 U6 V6 G6 R6 S5 hx hy
        go_wp2
        go_roundw
        case rel => exact ⟨k + 1, _, _, by omega, by go_num, X7, Y7, U7, O7, S7, G7, R7⟩
        case measure => simp [intOf]; omega
      · have hkN : k = v2 := by omega
        subst hkN
        by_cases hk0 : k = 0
        · subst hk0
          go_wp2_with fail
          refine (pick_any _ 100 3 _ hr.out (by omega) (by omega) (by omega)).mono ?_
          rintro e wZ ⟨vZ, rfl, kZ, gZ, rZ⟩
          have UZ := Lib.hid (OwnI.row hu.out gZ (fun k e => by simp at e; omega))
          have VZ := Lib.hid (OwnI.row hv.out gZ (fun k e => by simp at e; omega))
          have GZ := Lib.hid (grown_new G1.out (grown_trans hg.out gZ) z1)
          clear gZ rZ
          go_wp2_with fail
          go_ret3
          exact drawB_post UZ.out VZ.out (by have := hx.out; omega) (by have := hy.out; omega) (by omega) (by omega) GZ.out
        · have hk1 : (0 : Int) < k := by omega
          go_wp2_with fail
          refine (pick_any _ 20 _ _ hr.out (by omega) (by omega) (by omega)).mono ?_
          rintro e w2 ⟨v2, rfl, k2, g2, r2⟩
          have U2 := Lib.hid (OwnI.row hu.out g2 (fun k e => by simp at e; omega))
          have V2 := Lib.hid (OwnI.row hv.out g2 (fun k e => by simp at e; omega))
          have G2 := Lib.hid (grown_trans hg.out g2)
          have R2 := Lib.hid r2
          clear g2 r2 hu hv hg hr
          by_cases h20 : v2 = 0
          · subst h20
            go_wp2_with fail
            refine (pick_any _ (k : Int) _ _ R2.out (by omega) (by omega) (by omega)).mono ?_
            rintro e w8 ⟨v8, rfl, k8, g8, r8⟩
            go_wp2_with fail
            refine (pick_any _ 2 _ _ r8 (by omega) (by omega) (by omega)).mono ?_
            rintro e w9 ⟨v9, rfl, k9, g9, r9⟩
            have gg := grown_trans g8 g9
            have U9 := Lib.hid (OwnI.row U2.out gg (fun k e => by simp at e; omega))
            have v9' := OwnI.row V2.out gg (fun k e => by simp at e; omega)
            have G9 := Lib.hid (grown_trans G2.out gg)
            have R9 := Lib.hid r9
            clear gg g8 g9 r8 r9 U2 V2 G2 R2
            obtain ⟨va, vc, rfl, -, -⟩ := OwnI.shape v9'
            have hv8 : v8 < k := by omega
            obtain ⟨g, rfl, -, hBg, hgl, hc, hf, hset⟩ := OwnI.at v9' (by have := hy.out; omega)
            have c0 := hc v8 (by have := hy.out; omega)
            have f0' := hf v8
            have V10 := Lib.hid (hset v8 ((v9 : Int) * 9 - 1))
            have U10 := Lib.hid (OwnI.apart U9.out (grown_set w9 g v8 (.int .i64 ((v9 : Int) * 9 - 1))) hs.out.symm.other)
            have G10 := Lib.hid (gRow G9.out (grown_set w9 g v8 (.int .i64 ((v9 : Int) * 9 - 1))) (fun i hi e => by simp at e; omega))
            have R10 := Lib.hid (R9.out.set (p := ⟨g, v8, none⟩) (by show rb < g; omega) (.int .i64 ((v9 : Int) * 9 - 1)))
            have Y10 : Hid ((ys.set v8 ((v9 : Int) * 9 - 1)).length = k) := Lib.hid (by rw [List.length_set]; exact hy.out)
            have i0 : (0 : Int) ≤ (v8 : Int) := by omega
            have i1 : (v8 : Int) < k := by omega
            obtain ⟨zs, hzs⟩ : ∃ zs, ys.set v8 ((v9 : Int) * 9 - 1) = zs := ⟨_, rfl⟩
            rw [hzs] at V10 Y10
            have HYL := hy.out
            rw [HYL] at V10 ⊢
            clear hzs
            clear v9' hset hc hf U9 G9 R9
            go_wp2_with fail
            refine (pick_any _ 100 _ _ R10.out (by omega) (by omega) (by omega)).mono ?_
            rintro e wZ ⟨vZ, rfl, kZ, gZ, rZ⟩
            have UZ := Lib.hid (OwnI.row U10.out gZ (fun k e => by simp at e; omega))
            have VZ := Lib.hid (OwnI.row V10.out gZ (fun k e => by simp at e; omega))
            have GZ := Lib.hid (grown_new G1.out (grown_trans G10.out gZ) z1)
            clear gZ rZ
            go_wp2_with fail
            go_ret3
            exact drawB_post UZ.out VZ.out (by have := hx.out; omega) (by have := Y10.out; omega) (by omega) (by omega) GZ.out
          · have h20' : ((v2 : Int) == 0) = false := by simp; omega
            go_wp2_with fail
            refine (pick_any _ 100 _ _ R2.out (by omega) (by omega) (by omega)).mono ?_
            rintro e wZ ⟨vZ, rfl, kZ, gZ, rZ⟩
            have UZ := Lib.hid (OwnI.row U2.out gZ (fun k e => by simp at e; omega))
            have VZ := Lib.hid (OwnI.row V2.out gZ (fun k e => by simp at e; omega))
            have GZ := Lib.hid (grown_new G1.out (grown_trans G2.out gZ) z1)
            clear gZ rZ
            go_wp2_with fail
            go_ret3
            exact drawB_post UZ.out VZ.out (by have := hx.out; omega) (by have := hy.out; omega) (by omega) (by omega) GZ.out
end Go.Proofs.Ytolifggjblfobaa
