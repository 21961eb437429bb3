/- Drawn pieces. -/
import Derived.Test.YtkacopgfnkoifaaDrawL
import Derived.Test.YtkacopgfnkoifaaCutS
import Derived.Test.YtkacopgfnkoifaaPieceL
import Derived.Test.YtkacopgfnkoifaaExCut
import Derived.Test.YtkacopgfnkoifaaComb
import Derived.WalkKit
import Derived.Lib.Hide
import Derived.Deep.QuietTactic
import Derived.BigQuiet
import Derived.Deep.RegionHeld3
namespace Go.Proofs.Ytkacopgfnkoifaa
open Go.RowKit
/-- a drawn table: it reads as some rows -/
def PiecesPost (rb c : Nat) (w : World) (e : Ending) (w' : World) : Prop :=
  ∃ rows, ∃ ao cap, e = .returned (.slice ao rows.length cap) ∧ RowsAt w' ao rows.length cap rows ∧ w.grownBy w' (some rb) ∧ Rdr w' rb c
theorem pieces_post {rb c B M : Nat} {w w' : World} {v : Value} {rows : List (List Int)} (h : OwnR B M w' v rows) (hg : w.grownBy w' (some rb)) (hr : Rdr w' rb c) : PiecesPost rb c w (.returned v) w' := by
  obtain ⟨ao, cap, rfl, t⟩ := OwnR.shape h
  exact ⟨rows, ao, cap, rfl, t, hg, hr⟩
theorem lit_row (e : TypeId) (w : World) (cs : Array Value) (hm : cs.size ≤ 1000000) : RowAt (w.alloc (.cells cs e)) (some ⟨w.heap.size, 0, none⟩) cs.size cs.size cs.toList := by
  obtain ⟨ao, cap, e1, h, _⟩ := Own.shape (own_lit e w cs hm)
  simp only [Value.slice.injEq, Array.length_toList, true_and] at e1
  obtain ⟨rfl, rfl⟩ := e1
  simpa using h
theorem tab_cell_at {B M : Nat} {w : World} {g b n cap l rc : Nat} {L : List (List Int)} (h : OwnR B M w (.slice (some ⟨g, 0, none⟩) n cap) L) (k j : Nat) (hk : k < L.length) (hj : j < (L.getD k []).length) (hc : w.cell? ⟨g, k, none⟩ = some (.slice (some ⟨b, 0, none⟩) l rc)) :
    (∃ v0, w.cell? ⟨b, j, none⟩ = some v0) ∧ w.frozen? ⟨b, j, none⟩ = false ∧ B ≤ b ∧ ∀ x, OwnR B M (w.setCell ⟨b, j, none⟩ (.int .i64 x)) (.slice (some ⟨g, 0, none⟩) n cap) (L.set k ((L.getD k []).set j x)) := by
  obtain ⟨g', b', rc', v0, e1, cc, hBb, cb, fb, hset⟩ := OwnTab.cell h (by decide) k j hk hj
  simp only [Option.some.injEq, Addr.mk.injEq, and_true] at e1
  subst e1
  rw [hc] at cc
  simp only [Option.some.injEq, Value.slice.injEq, Addr.mk.injEq, and_true] at cc
  obtain ⟨e2, _, _⟩ := cc
  subst e2
  exact ⟨⟨v0, cb⟩, fb, hBb, hset⟩
theorem tab_ne {B M : Nat} {w : World} {g b n cap l rc : Nat} {L : List (List Int)} (h : OwnR B M w (.slice (some ⟨g, 0, none⟩) n cap) L) (k : Nat) (hk : k < L.length) (hc : w.cell? ⟨g, k, none⟩ = some (.slice (some ⟨b, 0, none⟩) l rc)) : g ≠ b := by
  obtain ⟨vs, h1, h2, h3, h4, h5⟩ := h
  obtain ⟨g', e1, -, -, -, hcell, -, -⟩ := h1.at (by omega)
  simp only [Option.some.injEq, Addr.mk.injEq, and_true] at e1
  subst e1
  obtain ⟨u, hu, ho, _⟩ := h4 k _ (List.getElem?_eq_getElem (l := L) (i := k) hk)
  have := hcell k u hu
  rw [hc] at this
  simp only [Option.some.injEq] at this
  subst this
  rcases own_types ho h1 (by decide) with e | e
  · simp [Value.ownBlock] at e
  · intro e2
    subst e2
    exact e rfl
theorem two_rows (w : World) : RowsAt (((w.alloc (.cells #[.int .i64 1, .int .i64 2, .int .i64 3] 3)).alloc (.cells #[.int .i64 4] 3)).alloc (.cells #[.slice (some ⟨w.heap.size, 0, none⟩) 3 3, .slice (some ⟨w.heap.size + 1, 0, none⟩) 1 1] 22)) (some ⟨w.heap.size + 2, 0, none⟩) 2 2 [[1, 2, 3], [4]] := by
  have q1 := lit_row 3 w #[.int .i64 1, .int .i64 2, .int .i64 3] (by simp)
  have q2 := lit_row 3 (w.alloc (.cells #[.int .i64 1, .int .i64 2, .int .i64 3] 3)) #[.int .i64 4] (by simp)
  have q3 := lit_row 22 ((w.alloc (.cells #[.int .i64 1, .int .i64 2, .int .i64 3] 3)).alloc (.cells #[.int .i64 4] 3)) #[.slice (some ⟨w.heap.size, 0, none⟩) 3 3, .slice (some ⟨w.heap.size + 1, 0, none⟩) 1 1] (by simp)
  have z1 : (w.alloc (.cells #[.int .i64 1, .int .i64 2, .int .i64 3] 3)).heap.size = w.heap.size + 1 := by simp
  have z2 : ((w.alloc (.cells #[.int .i64 1, .int .i64 2, .int .i64 3] 3)).alloc (.cells #[.int .i64 4] 3)).heap.size = w.heap.size + 2 := by simp
  rw [z1] at q2
  rw [z2] at q3
  refine ⟨[.slice (some ⟨w.heap.size, 0, none⟩) 3 3, .slice (some ⟨w.heap.size + 1, 0, none⟩) 1 1], q3, rfl, fun i r hi => ?_⟩
  have hi2 := (List.getElem?_eq_some_iff.1 hi).1
  have h01 : i = 0 ∨ i = 1 := by simp at hi2; omega
  rcases h01 with rfl | rfl
  · simp at hi
    subst hi
    exact ⟨_, _, rfl, q1.grown (grown_trans (grown_alloc _ _ _) (grown_alloc _ _ _))⟩
  · simp at hi
    subst hi
    exact ⟨_, _, rfl, q2.grown (grown_alloc _ _ _)⟩
set_option maxHeartbeats 4000000 in
theorem l92Pieces_any (rb c : Nat) (w : World) (hr : Rdr w rb c) (hc : c ≤ 700000) :
    Calls Try.prog 53 #[.pointer (some ⟨rb, 0, none⟩)] w (PiecesPost rb (c + 500) w) := by
  have hlt := hr.lt
  go_enter Try.func53, Try.ntmps53
  go_wp2_with fail
  refine (l91List_any rb c 14 (by omega) _ hr (by omega)).mono ?_
  rintro e w1 ⟨xs, a1, c1, l1, rfl, o1, g1, r1⟩
  go_wp2_with fail
  refine (piecesCutS_any _ _ _ _ xs (OwnI.ints o1).1 (by omega)).mono ?_
  rintro e w2 ⟨v2, rfl, o2, g2⟩
  have hz1 := g1.size
  have G2 := Lib.hid (grown_trans g1 (grown_some (row := some rb) g2))
  have R2 := Lib.hid (r1.grown g2)
  have CL := Lib.hid (cutL_rows xs).1
  obtain ⟨L, hL⟩ : ∃ L, cutL xs = L := ⟨_, rfl⟩
  have ROW := Lib.hid (show ∀ i, i < L.length → (L.getD i []).length = 3 from fun i hi => by
    rw [← hL] at hi ⊢
    by_cases h : CutP xs
    · exact (cutL_one h i (by rw [← cutL_len h]; exact hi)).1
    · rw [cutL_no h] at hi; simp at hi)
  rw [hL] at o2 CL
  clear hL
  obtain ⟨a2, c2, rfl, -⟩ := OwnR.shape o2
  obtain ⟨K, hK⟩ : ∃ K, L.length = K := ⟨_, rfl⟩
  rw [hK] at o2 ⊢
  have HK := Lib.hid hK
  have hK5 : K ≤ 5 := by have := CL.out; omega
  have O2 := Lib.hid o2
  clear o1 o2 g1 g2 r1 hr hK
  by_cases hK0 : K = 0
  case pos =>
    subst hK0
    have TW := Lib.hid (two_rows w2)
    have GW := Lib.hid (gAlloc (gAlloc (gAlloc G2.out (.cells #[.int .i64 1, .int .i64 2, .int .i64 3] 3)) (.cells #[.int .i64 4] 3)) (.cells #[.slice (some ⟨w2.heap.size, 0, none⟩) 3 3, .slice (some ⟨w2.heap.size + 1, 0, none⟩) 1 1] 22))
    have RW := Lib.hid ((((R2.out.al (.cells #[.int .i64 1, .int .i64 2, .int .i64 3] 3)).al (.cells #[.int .i64 4] 3)).al (.cells #[.slice (some ⟨w2.heap.size, 0, none⟩) 3 3, .slice (some ⟨w2.heap.size + 1, 0, none⟩) 1 1] 22)).mono (show _ ≤ c + 500 by omega))
    go_wp2_with fail
    go_ret
    exact ⟨[[1, 2, 3], [4]], _, _, rfl, TW.out, GW.out, RW.out⟩
  case neg =>
    have k0 : ((K : Int) == 0) = false := by simp; omega
    go_wp2_with fail
    refine (pick_any _ (K : Int) (c+400) _ R2.out (by omega) (by omega) (by omega)).mono ?_
    rintro e w3 ⟨v3, rfl, k3, g3, r3⟩
    have kk : v3 < K := by omega
    have O3 := Lib.hid (OwnR.row O2.out g3 (fun b e => .inl (by simp at e; omega)))
    have G3 := Lib.hid (grown_trans G2.out g3)
    clear O2 G2 g3 R2
    go_wp2_with fail
    refine (pick_any _ 8 (c+401) _ r3 (by omega) (by omega) (by omega)).mono ?_
    rintro e w4 ⟨v4, rfl, k4, g4, r4⟩
    have O4 := Lib.hid (OwnR.now (OwnR.row O3.out g4 (fun b e => .inl (by simp at e; omega))))
    have G4 := Lib.hid (grown_trans G3.out g4)
    have R4 := Lib.hid r4
    clear O3 G3 g4 r3 r4
    have j0 : (0 : Int) ≤ (v3 : Int) := by omega
    have j1 : (v3 : Int) < K := by omega
    have hgw := Lib.hid (show ∀ i, i < K → (L.getD i []).length = 3 from fun i hi => ROW.out i (by rw [HK.out]; exact hi))
    obtain ⟨g, b, rc, v0, e1, cc, hBb, cb, fb, hset⟩ := OwnTab.cell O4.out (by decide) v3 0 (by rw [HK.out]; omega) (by rw [hgw.out v3 kk]; omega)
    rw [hgw.out v3 kk] at cc
    subst e1
    clear cb fb hset v0
    have hgB1 : w1.heap.size ≤ g := by
      obtain ⟨vs, hs⟩ := OwnTab.spine O4.out
      exact (hs.bound g rfl).1
    have hgB : rb < g := by omega
    have hgb := tab_ne O4.out v3 (by rw [HK.out]; exact kk) cc
    have hgbs : some g ≠ some b := by simpa using hgb
    have hgne : some g ≠ some rb := by simp; omega
    by_cases h0 : v4 = 0
    · subst h0
      have cd : w4.drew.cell? ⟨g, v3, none⟩ = some (.slice (some ⟨b, 0, none⟩) 3 rc) := cc
      go_wp2_with fail
      go_region_held3 (fun w' => w'.cell? ⟨g, v3, none⟩ = some (.slice (some ⟨b, 0, none⟩) 3 rc)) (first | assumption)
        (first | (go_at_call 56; refine (pick_any rb 3 (c + 402) _ R4.out.drew (by omega) (by omega) (by omega)).mono ?_; rintro e w5 ⟨v5, rfl, k5, g5, r5⟩; have c5 := g5.cell cd hgne) | (go_at_call 58; refine (l91Number_any rb (c + 403) _ r5 (by omega)).mono ?_; rintro e w6 ⟨z, rfl, hz, g6, r6⟩; have c6 := g6.cell c5 hgne; have kk5 : v5 < 3 := (by omega); have t6 := OwnR.row (OwnR.row (OwnR.grown O4.out (gDrew (grown_refl w4 none))) g5 (fun b e => .inl (by simp at e; omega))) g6 (fun b e => .inl (by simp at e; omega)); obtain ⟨⟨v0, cb6⟩, fb6, hB6, hset6⟩ := tab_cell_at t6 v3 v5 (by rw [HK.out]; exact kk) (by rw [hgw.out v3 kk]; exact kk5) c6; have c7 := (grown_set w6 b v5 (.int .i64 z)).cell c6 hgbs; have S6 := Lib.hid (hset6 z); have G6 := Lib.hid (gSet (grown_trans (grown_trans (gDrew G4.out) g5) g6) (p := ⟨b, v5, none⟩) (by show w.heap.size ≤ b; omega) (.int .i64 z)); have R6 := Lib.hid ((r6.set (p := ⟨b, v5, none⟩) (by show rb < b; omega) (.int .i64 z)).mono (show _ ≤ c + 500 by omega)); have p0 : (0 : Int) ≤ (v5 : Int) := (by omega); have p1 : (v5 : Int) < 3 := (by omega); clear t6 hset6 g6 r6))
      go_wp2
      go_ret
      exact pieces_post S6.out G6.out R6.out
    by_cases h1 : v4 = 1
    · subst h1
      obtain ⟨g', e2, -, ⟨v0, c0⟩, f0, t0⟩ := OwnTab.setRow (OwnTab.grown O4.out (grown_alloc w4 (.cells #[] 3) none)) (by decide) (show w1.heap.size ≤ w4.heap.size by have := OwnTab.below O4.out g rfl; obtain ⟨vs, hs⟩ := OwnTab.spine O4.out; have := (hs.bound g rfl).1; omega) v3 (by rw [HK.out]; exact kk) (r := []) (own_lit 3 w4 #[] (by simp))
      simp only [Option.some.injEq, Addr.mk.injEq, and_true] at e2
      subst e2
      have S6 := Lib.hid t0
      have G6 := Lib.hid (gSet (gAlloc G4.out (.cells #[] 3)) (p := ⟨g, v3, none⟩) (by show w.heap.size ≤ g; omega) (.slice (some ⟨w4.heap.size, 0, none⟩) 0 0))
      have R6 := Lib.hid (((R4.out.al (.cells #[] 3)).set (p := ⟨g, v3, none⟩) hgB (.slice (some ⟨w4.heap.size, 0, none⟩) 0 0)).mono (show _ ≤ c + 500 by omega))
      clear t0 cc
      go_wp2
      go_ret
      exact pieces_post S6.out G6.out R6.out
    by_cases h2 : v4 = 2
    · subst h2
      obtain ⟨ao, cap, e2, t4⟩ := OwnR.shape O4.out
      simp only [Value.slice.injEq] at e2
      obtain ⟨rfl, e3, rfl⟩ := e2
      have TT := Lib.hid (TabAt.pre t4 v3 (by rw [HK.out]; omega))
      have LT := Lib.hid (show (L.take v3).length = v3 by rw [List.length_take, HK.out]; omega)
      have hcap := TabAt.le t4
      have hcap2 : K ≤ c2 := by have := hcap.1; rw [HK.out] at this; exact this
      have hcap3 := hcap.2
      clear t4 e3 hcap
      go_wp2
      go_ret
      exact ⟨L.take v3, _, _, by rw [LT.out]; rfl, by rw [LT.out]; exact TT.out, G4.out, R4.out.mono (by omega)⟩
    · have t0 : ((v4 : Int) == 0) = false := by simp; omega
      have t1 : ((v4 : Int) == 1) = false := by simp; omega
      have t2 : ((v4 : Int) == 2) = false := by simp; omega
      clear cc
      go_wp2_with fail
      go_ret
      exact pieces_post O4.out G4.out (R4.out.mono (by omega))
end Go.Proofs.Ytkacopgfnkoifaa
