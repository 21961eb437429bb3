/- The walks of FnRepair and FnRepairTwo. -/
import Derived.Test.YtkacopgfnkoifaaSameT
import Derived.Test.YtkacopgfnkoifaaPieceL
import Derived.Test.YtkacopgfnkoifaaRep
import Derived.WalkKit
import Derived.Lib.Hide
import Derived.Deep.QuietTactic
import Derived.BigQuiet
namespace Go.Proofs.Ytkacopgfnkoifaa
open Go.RowKit
/-- an owned list of rows, made since w0; the rows lie in w0 -/
structure Spine (w0 w : World) (v : Value) (rows : List (List Int)) (vs : List Value) : Prop where
  own : Own 22 w0.heap.size w v vs
  len : vs.length = rows.length
  row : ∀ (i : Nat) (r : List Int), rows[i]? = some r → ∃ ro rc, vs[i]? = some (.slice ro r.length rc) ∧ IntsAt w0 ro r.length rc r
  base : w0.grownBy w none
theorem Spine.rows {w0 w : World} {v : Value} {rows : List (List Int)} {vs : List Value} (h : Spine w0 w v rows vs) : ∃ ao cap, v = .slice ao rows.length cap ∧ RowsAt w ao rows.length cap rows := by
  obtain ⟨ao, cap, rfl, hr, _⟩ := Own.shape h.own
  rw [h.len] at hr ⊢
  exact ⟨ao, cap, rfl, vs, hr, h.len, fun i r hi => by obtain ⟨ro, rc, e, hr⟩ := h.row i r hi; exact ⟨ro, rc, e, IntsAt.grown hr h.base⟩⟩
theorem Spine.at {w0 w : World} {ao : Option Addr} {n cap : Nat} {rows : List (List Int)} {vs : List Value} (h : Spine w0 w (.slice ao n cap) rows vs) : RowsAt w ao n cap rows := by
  obtain ⟨a, c, e, hr⟩ := h.rows
  simp only [Value.slice.injEq] at e
  obtain ⟨rfl, rfl, rfl⟩ := e
  exact hr
theorem Spine.grown {w0 w w' : World} {v : Value} {rows : List (List Int)} {vs : List Value} (h : Spine w0 w v rows vs) (hg : w.grownBy w' none) : Spine w0 w' v rows vs :=
  ⟨h.own.grown hg, h.len, h.row, grown_trans h.base hg⟩
theorem ints_empty (w : World) (b : Nat) : IntsAt w (some ⟨b, 0, none⟩) 0 0 [] := ⟨rfl, Nat.le_refl _, by omega, by simp, .inl rfl⟩
theorem Spine.set {w0 w : World} {ao : Option Addr} {n cap : Nat} {rows : List (List Int)} {vs : List Value} (h : Spine w0 w (.slice ao n cap) rows vs) (k : Nat) (hk : k < rows.length) (b : Nat) :
    ∃ g v0, ao = some ⟨g, 0, none⟩ ∧ w0.heap.size ≤ g ∧ w.cell? ⟨g, k, none⟩ = some v0 ∧ w.frozen? ⟨g, k, none⟩ = false ∧ Spine w0 (w.setCell ⟨g, k, none⟩ (.slice (some ⟨b, 0, none⟩) 0 0)) (.slice ao n cap) (rows.set k []) (vs.set k (.slice (some ⟨b, 0, none⟩) 0 0)) := by
  obtain ⟨g, rfl, hn, hB, hgl, hc, hf, hset⟩ := Own.at h.own (by rw [h.len]; omega)
  refine ⟨g, vs[k]'(by rw [h.len]; exact hk), rfl, hB, hc k _ (by rw [List.getElem?_eq_getElem]), hf k, hset k _, by simp [h.len], fun i r hi => ?_, gSet h.base hB _⟩
  by_cases e' : i = k
  · subst e'
    rw [List.getElem?_set_self hk] at hi
    simp only [Option.some.injEq] at hi
    subst hi
    exact ⟨some ⟨b, 0, none⟩, 0, by rw [List.getElem?_set_self (by rw [h.len]; exact hk)]; rfl, ints_empty _ _⟩
  · rw [List.getElem?_set_ne (Ne.symm e')] at hi
    obtain ⟨ro, rc, e1, hr⟩ := h.row i r hi
    exact ⟨ro, rc, by rw [List.getElem?_set_ne (Ne.symm e')]; exact e1, hr⟩
theorem spine_ones {w : World} {vs : List Value} {rows : List (List Int)} (hl : vs.length = rows.length) (h : ∀ (i : Nat) (r : List Int), rows[i]? = some r → ∃ ro rc, vs[i]? = some (.slice ro r.length rc) ∧ RowAt w ro r.length rc (r.map (Value.int .i64))) : ∀ u ∈ vs, u.oneCell' = true := by
  intro u hu
  obtain ⟨i, hi, e⟩ := List.getElem_of_mem hu
  obtain ⟨ro, rc, e1, _⟩ := h i _ (List.getElem?_eq_getElem (l := rows) (i := i) (by omega))
  rw [List.getElem?_eq_getElem hi, e] at e1
  simp only [Option.some.injEq] at e1
  rw [e1]; rfl
set_option maxHeartbeats 4000000 in
theorem fnRepair_walk (ao : Option Addr) (n cap : Nat) (bo : Option Addr) (m cap' : Nat) (w : World) (h1 : CodeAt w ao n cap) (h2 : CodeAt w bo m cap') :
    Calls Try.prog 8 #[.slice ao n cap, .slice bo m cap'] w fun e w' => e = .returned (.bool true) ∧ w.grownBy w' none := by
  have hm := h2.max
  have hmc := h2.le
  by_cases a : (1048576 : Int) < n
  · go_enter Try.func8, Try.ntmps8
    go_wp2
    go_ret
    exact ⟨rfl, grown_refl _ _⟩
  by_cases b : (1048576 : Int) < m
  · go_enter Try.func8, Try.ntmps8
    go_wp2
    go_ret
    exact ⟨rfl, grown_refl _ _⟩
  · go_enter Try.func8, Try.ntmps8
    go_wp2_with fail
    refine (drawPiecesCut_any _ _ _ _ h1).mono ?_
    rintro e w1 ⟨xs, a1, c1, l1, rfl, t1, g1⟩
    obtain ⟨N, hN⟩ : ∃ N, xs.length = N := ⟨_, rfl⟩
    rw [hN] at t1 l1 ⊢
    go_wp2_with fail
    refine (piecesCut_any _ _ _ _ xs t1 (by omega)).mono ?_
    rintro e w2 ⟨v2, rfl, o2, g2⟩
    obtain ⟨a2, c2, rfl, t2⟩ := OwnR.shape o2
    go_wp2_with fail
    refine (piecesCutS_any _ _ _ _ xs (t1.grown g2) (by omega)).mono ?_
    rintro e w3 ⟨v3, rfl, o3, g3⟩
    obtain ⟨a3, c3, rfl, t3⟩ := OwnR.shape o3
    obtain ⟨K, hK⟩ : ∃ K, (cutL xs).length = K := ⟨_, rfl⟩
    rw [hK] at t2 t3 ⊢
    have HK := Lib.hid hK
    have HN := Lib.hid hN
    have T1 := Lib.hid ((t1.grown g2).grown g3)
    have T2 := Lib.hid (t2.grown g3)
    have T3 := Lib.hid t3
    have G3 := Lib.hid (grown_trans g1 (grown_trans g2 g3))
    clear o2 o3 t1 t2 t3 g1 g2 g3 hK hN
    by_cases hK0 : K = 0
    case pos =>
      subst hK0
      go_wp2_with fail
      refine (samePieces_same _ _ _ _ _ _ _ T2.out T3.out).mono ?_
      rintro e w4 ⟨rfl, d, rfl⟩
      go_wp2_with fail
      refine (samePieces_same _ _ _ _ _ _ _ (T2.out.grown (grown_drewN _ d _)) (T3.out.grown (grown_drewN _ d _))).mono ?_
      rintro e w5 ⟨rfl, d2, rfl⟩
      go_wp2_with fail
      go_ret
      exact ⟨rfl, gDrewN G3.out _⟩
    case neg =>
      have HP : CutP xs := by
        refine Classical.byContradiction fun e => hK0 ?_
        rw [← HK.out, cutL_no e]; rfl
      have HC := Lib.hid HP
      have HE := Lib.hid (cutL_yes HP)
      have hKc : K = cutC N := by rw [← HK.out, HE.out, chunks_len, HN.out]
      have hK5 : K ≤ 5 := by rw [hKc, ← HN.out]; exact HP.2
      have hKN : (N + 3) / 3 = K := hKc.symm
      have HKC := Lib.hid hKc
      have k0 : ((K : Int) == 0) = false := by simp; omega
      clear HP hKc
      go_wp2_with fail
      refine (samePieces_same _ _ _ _ _ _ _ T2.out T3.out).mono ?_
      rintro e w4 ⟨rfl, d, hd⟩
      have g4 : w3.grownBy w4 none := by rw [hd]; exact grown_drewN _ _ _
      have U1 := Lib.hid (T1.out.grown g4)
      have U2 := Lib.hid (T2.out.grown g4)
      have G4 := Lib.hid (grown_trans G3.out g4)
      clear hd g4 T1 T2 T3 G3
      have FP := Lib.hid (cutL_full HC.out)
      have LEN := Lib.hid (parity_one FP.out).1
      go_wp2_with fail
      refine (piecesParity_any _ _ _ _ (cutL xs) U2.out).mono ?_
      rintro e w5 ⟨a5, c5, rfl, o5, g5⟩
      rw [LEN.out] at o5 ⊢
      have P5 := Lib.hid (OwnI.ints o5).1
      have T5 := U2.out.grown g5
      have T9 := Lib.hid T5
      have G5 := Lib.hid (grown_trans G4.out g5)
      obtain ⟨vs, r1, r2, r3⟩ := T5
      have R1 := Lib.hid (RowAt.grown r1 (grown_alloc w5 (.cells #[] 22) none))
      have R2 := Lib.hid r2
      have R3 := Lib.hid r3
      have VL := Lib.hid (show vs.length = K by rw [r2, HK.out])
      have ONES := spine_ones r2 r3
      have OE := Lib.hid ((own_lit 22 w5 #[] (by simp)).lower (Nat.le_refl _))
      have ZE := (grown_alloc w5 (.cells #[] 22) none).size
      obtain ⟨q, hq⟩ : ∃ q, m % K = q := ⟨_, rfl⟩
      have hqK : q < K := by rw [← hq]; exact Nat.mod_lt _ (by omega)
      have d0 : K ≠ 0 := hK0
      have d1 : ((K : Int) == 0) = false := k0
      have d2 : (m : Int).tmod (K : Int) = (q : Int) := by rw [← hq]; rfl
      have d3 : (m : Int) % (K : Int) = (q : Int) := by rw [← hq]; rfl
      clear o5 g5 r1 r2 r3 U1 hq
      go_wp2_with (at_builtin; refine app_own 23 22 (.slice none 0 0) 24 rfl (.tmp 46) (.tmp 47) rfl Try.underlying23 info_introw rfl (by decide) OE.out R1.out rfl rfl ONES ZE (by rw [VL.out]; simp; omega) ?_; intro v6 w6 o6 g6; refine Hid.out ?_)
      show wpList _ _ _ _ _ _
      have g6' := grown_own (grown_alloc w5 (.cells #[] 22) none) OE.out g6 (Nat.le_refl _)
      have S6 : Spine w5 w6 v6 (cutL xs) vs := ⟨o6, R2.out, R3.out, g6'⟩
      obtain ⟨a6, c6, rfl, -⟩ := S6.rows
      rw [HK.out] at S6 ⊢
      have S7 := S6.grown (grown_alloc w6 (.cells #[] 3) none)
      obtain ⟨g, v0, e6, hgB, cs, fs, S8⟩ := S7.set q (by rw [HK.out]; exact hqK) w6.heap.size
      subst e6
      have hq0 : (0 : Int) ≤ (q : Int) := by omega
      have hq1 : (q : Int) < K := by omega
      have HS8 := Lib.hid S8
      clear o6 g6 g6' S6 S7 S8 OE ZE ONES R1 d2 d3 d1
      have P8 := Lib.hid (P5.out.grown HS8.out.base)
      have T8 := Lib.hid HS8.out.at
      have G8 := Lib.hid (grown_trans G5.out HS8.out.base)
      have TO := Lib.hid (T9.out.grown HS8.out.base)
      have R := Lib.hid (repair_one FP.out q (by rw [HK.out]; exact hqK))
      clear HS8 P5 G5 T9
      go_wp2_with fail
      refine (piecesRepair_any _ _ _ _ ((cutL xs).set q []) _ _ _ (parityL (cutL xs)) T8.out P8.out).mono ?_
      rintro e w9 ⟨v9, rfl, o9, g9⟩
      rw [R.out.2] at o9
      rw [pb_true R.out.1]
      obtain ⟨a9, c9, rfl, t9⟩ := OwnR.shape o9
      rw [HK.out] at t9 ⊢
      have T6 := Lib.hid t9
      have T7 := Lib.hid (TO.out.grown g9)
      have G6 := Lib.hid (grown_trans G8.out g9)
      clear o9 t9 g9
      go_wp2_with fail
      refine (samePieces_same _ _ _ _ _ _ _ T6.out T7.out).mono ?_
      rintro e w10 ⟨rfl, d, rfl⟩
      go_wp2_with fail
      go_ret
      exact ⟨rfl, gDrewN G6.out d⟩
set_option maxHeartbeats 4000000 in
theorem fnRepairTwo_walk (ao : Option Addr) (n cap : Nat) (bo : Option Addr) (m cap' : Nat) (w : World) (h1 : CodeAt w ao n cap) (h2 : CodeAt w bo m cap') :
    Calls Try.prog 9 #[.slice ao n cap, .slice bo m cap'] w fun e w' => e = .returned (.bool true) ∧ w.grownBy w' none := by
  have hm := h2.max
  have hmc := h2.le
  by_cases a : (1048576 : Int) < n
  · go_enter Try.func9, Try.ntmps9
    go_wp2
    go_ret
    exact ⟨rfl, grown_refl _ _⟩
  by_cases b : (1048576 : Int) < m
  · go_enter Try.func9, Try.ntmps9
    go_wp2
    go_ret
    exact ⟨rfl, grown_refl _ _⟩
  · go_enter Try.func9, Try.ntmps9
    go_wp2_with fail
    refine (drawPiecesCut_any _ _ _ _ h1).mono ?_
    rintro e w1 ⟨xs, a1, c1, l1, rfl, t1, g1⟩
    obtain ⟨N, hN⟩ : ∃ N, xs.length = N := ⟨_, rfl⟩
    rw [hN] at t1 l1 ⊢
    go_wp2_with fail
    refine (piecesCut_any _ _ _ _ xs t1 (by omega)).mono ?_
    rintro e w2 ⟨v2, rfl, o2, g2⟩
    obtain ⟨a2, c2, rfl, t2⟩ := OwnR.shape o2
    go_wp2_with fail
    refine (piecesCutS_any _ _ _ _ xs (t1.grown g2) (by omega)).mono ?_
    rintro e w3 ⟨v3, rfl, o3, g3⟩
    obtain ⟨a3, c3, rfl, t3⟩ := OwnR.shape o3
    obtain ⟨K, hK⟩ : ∃ K, (cutL xs).length = K := ⟨_, rfl⟩
    rw [hK] at t2 t3 ⊢
    have HK := Lib.hid hK
    have HN := Lib.hid hN
    have T1 := Lib.hid ((t1.grown g2).grown g3)
    have T2 := Lib.hid (t2.grown g3)
    have T3 := Lib.hid t3
    have G3 := Lib.hid (grown_trans g1 (grown_trans g2 g3))
    clear o2 o3 t1 t2 t3 g1 g2 g3 hK hN
    by_cases hK0 : K < 2
    case pos =>
      go_wp2_with fail
      refine (samePieces_same _ _ _ _ _ _ _ T2.out T3.out).mono ?_
      rintro e w4 ⟨rfl, d, rfl⟩
      go_wp2_with fail
      refine (samePieces_same _ _ _ _ _ _ _ (T2.out.grown (grown_drewN _ d _)) (T3.out.grown (grown_drewN _ d _))).mono ?_
      rintro e w5 ⟨rfl, d2, rfl⟩
      go_wp2_with fail
      go_ret
      exact ⟨rfl, gDrewN G3.out _⟩
    case neg =>
      have HP : CutP xs := by
        refine Classical.byContradiction fun e => hK0 ?_
        rw [← HK.out, cutL_no e]; simp
      have HC := Lib.hid HP
      have HE := Lib.hid (cutL_yes HP)
      have hKc : K = cutC N := by rw [← HK.out, HE.out, chunks_len, HN.out]
      have hK5 : K ≤ 5 := by rw [hKc, ← HN.out]; exact HP.2
      have hKN : (N + 3) / 3 = K := hKc.symm
      have HKC := Lib.hid hKc
      have k0 : ((K : Int) == 0) = false := by simp; omega
      clear HP hKc
      go_wp2_with fail
      refine (samePieces_same _ _ _ _ _ _ _ T2.out T3.out).mono ?_
      rintro e w4 ⟨rfl, d, hd⟩
      have g4 : w3.grownBy w4 none := by rw [hd]; exact grown_drewN _ _ _
      have U1 := Lib.hid (T1.out.grown g4)
      have U2 := Lib.hid (T2.out.grown g4)
      have G4 := Lib.hid (grown_trans G3.out g4)
      clear hd g4 T1 T2 T3 G3
      have FP := Lib.hid (cutL_full HC.out)
      have LEN := Lib.hid (parity_one FP.out).1
      have T5 := U2.out
      obtain ⟨vs, r1, r2, r3⟩ := T5
      have R1 := Lib.hid (RowAt.grown r1 (grown_alloc w4 (.cells #[] 22) none))
      have R2 := Lib.hid r2
      have R3 := Lib.hid r3
      have VL := Lib.hid (show vs.length = K by rw [r2, HK.out])
      have ONES := spine_ones r2 r3
      have OE := Lib.hid ((own_lit 22 w4 #[] (by simp)).lower (Nat.le_refl _))
      have ZE := (grown_alloc w4 (.cells #[] 22) none).size
      obtain ⟨q, hq⟩ : ∃ q, m % K = q := ⟨_, rfl⟩
      have hqK : q < K := by rw [← hq]; exact Nat.mod_lt _ (by omega)
      obtain ⟨p, hp⟩ : ∃ p, (q + 1) % K = p := ⟨_, rfl⟩
      have hpK : p < K := by rw [← hp]; exact Nat.mod_lt _ (by omega)
      have hpq : q ≠ p := by
        rw [← hp]
        by_cases e : q + 1 < K
        · rw [Nat.mod_eq_of_lt e]; omega
        · have : q + 1 = K := by omega
          rw [this, Nat.mod_self]; omega
      have d0 : K ≠ 0 := by omega
      have d1 : ((K : Int) == 0) = false := k0
      have d2 : (m : Int).tmod (K : Int) = (q : Int) := by rw [← hq]; rfl
      have d3 : (m : Int) % (K : Int) = (q : Int) := by rw [← hq]; rfl
      have D4 := Lib.hid (show ((q : Int) + 1).tmod (K : Int) = (p : Int) by rw [← hp]; rfl)
      have D5 := Lib.hid (show ((q : Int) + 1) % (K : Int) = (p : Int) by rw [← hp]; rfl)
      have D6 := Lib.hid hp
      clear r1 r2 r3 U1 hq hp
      go_wp2_with (at_builtin; refine app_own 23 22 (.slice none 0 0) 24 rfl (.tmp 43) (.tmp 44) rfl Try.underlying23 info_introw rfl (by decide) OE.out R1.out rfl rfl ONES ZE (by rw [VL.out]; simp; omega) ?_; intro v6 w6 o6 g6; refine Hid.out ?_)
      show wpList _ _ _ _ _ _
      have g6' := grown_own (grown_alloc w4 (.cells #[] 22) none) OE.out g6 (Nat.le_refl _)
      have S6 : Spine w4 w6 v6 (cutL xs) vs := ⟨o6, R2.out, R3.out, g6'⟩
      obtain ⟨a6, c6, rfl, -⟩ := S6.rows
      rw [HK.out] at S6 ⊢
      obtain ⟨g, v0, e6, hgB, cs, fs, S8⟩ := S6.set q (by rw [HK.out]; exact hqK) w6.heap.size
      subst e6
      obtain ⟨g', v1, e7, -, -, -, S9⟩ := S8.set p (by rw [List.length_set, HK.out]; exact hpK) (w6.heap.size + 1)
      simp only [Option.some.injEq, Addr.mk.injEq, and_true] at e7
      subst e7
      have S10 := (S9.grown (grown_alloc _ (.cells #[] 3) none)).grown (grown_alloc _ (.cells #[] 3) none)
      obtain ⟨g3, v4, e9, -, cs3, fs3, -⟩ := S6.set p (by rw [HK.out]; exact hpK) 0
      simp only [Option.some.injEq, Addr.mk.injEq, and_true] at e9
      subst e9
      have hgl := (S6.own.bound g rfl).2
      have hpq2 : p ≠ q := Ne.symm hpq
      have d4 := D4.out
      have d5 := D5.out
      have d6 := D6.out
      have hq0 : (0 : Int) ≤ (q : Int) := by omega
      have hq1 : (q : Int) < K := by omega
      have hp0 : (0 : Int) ≤ (p : Int) := by omega
      have hp1 : (p : Int) < K := by omega
      have HS10 := Lib.hid S10
      clear o6 g6 g6' S6 S8 S9 S10 OE ZE ONES R1 D4 D5 D6
      have T8 := Lib.hid HS10.out.at
      have G8 := Lib.hid (grown_trans G4.out HS10.out.base)
      have TO := Lib.hid (U2.out.grown HS10.out.base)
      have R : Hid (¬ RepP (((cutL xs).set q []).set p []) (parityL (cutL xs))) := Lib.hid (repair_two FP.out q p (by rw [HK.out]; exact hqK) (by rw [HK.out]; exact hpK) hpq _)
      clear HS10 U2
      go_wp2_with fail
      clear cs fs cs3 fs3 d2 d3 d4 d5 d6
      refine (piecesParity_any _ _ _ _ (cutL xs) TO.out).mono ?_
      rintro e w7 ⟨a7, c7, rfl, o7, g7⟩
      rw [LEN.out] at o7 ⊢
      have P7 := Lib.hid (OwnI.ints o7).1
      have T7 := Lib.hid (T8.out.grown g7)
      have G7 := Lib.hid (grown_trans G8.out g7)
      clear o7 g7
      go_wp2_with fail
      refine (piecesRepair_any _ _ _ _ _ _ _ _ (parityL (cutL xs)) T7.out P7.out).mono ?_
      rintro e w9 ⟨v9, rfl, -, g9⟩
      rw [pb_false R.out]
      have G9 := Lib.hid (grown_trans G7.out g9)
      clear g9
      go_wp2_with fail
      go_ret
      exact ⟨rfl, G9.out⟩
end Go.Proofs.Ytkacopgfnkoifaa
