/- Drawn pieces and a parity. -/
import Derived.Test.YtkacopgfnkoifaaDrawP
import Derived.Test.YtkacopgfnkoifaaPar
import Derived.WalkKit
import Derived.Lib.Hide
import Derived.Deep.QuietTactic
import Derived.BigQuiet
namespace Go.Proofs.Ytkacopgfnkoifaa
open Go.RowKit
theorem drawPiecesParity_any (w : World) (ao : Option Addr) (n cap : Nat) (hco : CodeAt w ao n cap) :
    Calls Try.prog 36 #[.slice ao n cap] w fun e w' => ∃ rows, ∃ a1 c1, e = .returned (.slice a1 rows.length c1) ∧ RowsAt w' a1 rows.length c1 rows ∧ w.grownBy w' none := by
  go_enter Try.func36, Try.ntmps36
  go_wp2_with fail
  refine (l6Open_any _ _ _ _ hco).mono ?_
  rintro e w1 ⟨rb, rfl, z1, g1, r1⟩
  go_wp2_with fail
  refine (l92Pieces_any rb 0 _ r1 (by omega)).mono ?_
  rintro e w2 ⟨rows, a2, cap2, rfl, t2, g2, r2⟩
  go_wp2_with fail
  go_ret
  exact ⟨rows, _, _, rfl, t2, grown_new g1 g2 z1⟩
theorem drawPiecesJoin_any (w : World) (ao : Option Addr) (n cap : Nat) (hco : CodeAt w ao n cap) :
    Calls Try.prog 40 #[.slice ao n cap] w fun e w' => ∃ rows, ∃ a1 c1, e = .returned (.slice a1 rows.length c1) ∧ RowsAt w' a1 rows.length c1 rows ∧ w.grownBy w' none := by
  go_enter Try.func40, Try.ntmps40
  go_wp2_with fail
  refine (l6Open_any _ _ _ _ hco).mono ?_
  rintro e w1 ⟨rb, rfl, z1, g1, r1⟩
  go_wp2_with fail
  refine (l92Pieces_any rb 0 _ r1 (by omega)).mono ?_
  rintro e w2 ⟨rows, a2, cap2, rfl, t2, g2, r2⟩
  go_wp2_with fail
  go_ret
  exact ⟨rows, _, _, rfl, t2, grown_new g1 g2 z1⟩
/-- drawn pieces, and a list -/
def DrawRPost (w : World) (e : Ending) (w' : World) : Prop :=
  ∃ rows par, ∃ a1 c1 a2 c2, e = .returned (.tuple #[.slice a1 rows.length c1, .slice a2 par.length c2]) ∧ RowsAt w' a1 rows.length c1 rows ∧ IntsAt w' a2 par.length c2 par ∧ w.grownBy w' none
theorem drawR_post {B M B' : Nat} {w w' : World} {v u : Value} {rows : List (List Int)} {par : List Int} (h : OwnR B M w' v rows) (hp : OwnI B' w' u par) (hg : w.grownBy w' none) : DrawRPost w (.returned (.tuple #[v, u])) w' := by
  obtain ⟨ao, cap, rfl, t⟩ := OwnR.shape h
  obtain ⟨bo, cap', rfl, t', _⟩ := OwnI.shape hp
  exact ⟨rows, par, ao, cap, bo, cap', rfl, t, t', hg⟩
/-- a row of an owned table struck out -/
theorem strike {B : Nat} {w : World} {ao : Option Addr} {n cap : Nat} {L : List (List Int)} (h : OwnR B w.heap.size w (.slice ao n cap) L) (k : Nat) (hk : k < L.length) :
    ∃ g v0, ao = some ⟨g, 0, none⟩ ∧ B ≤ g ∧ (w.alloc (.cells #[] 3)).cell? ⟨g, k, none⟩ = some v0 ∧ (w.alloc (.cells #[] 3)).frozen? ⟨g, k, none⟩ = false ∧
      OwnR B ((w.alloc (.cells #[] 3)).setCell ⟨g, k, none⟩ (.slice (some ⟨w.heap.size, 0, none⟩) 0 0)).heap.size ((w.alloc (.cells #[] 3)).setCell ⟨g, k, none⟩ (.slice (some ⟨w.heap.size, 0, none⟩) 0 0)) (.slice ao n cap) (L.set k []) ∧
      (∀ (B' : Nat) (u : Value) (xs : List Int), OwnI B' w u xs → OwnI B' ((w.alloc (.cells #[] 3)).setCell ⟨g, k, none⟩ (.slice (some ⟨w.heap.size, 0, none⟩) 0 0)) u xs) := by
  obtain ⟨vs, hs⟩ := OwnTab.spine h
  have hB : ∀ k, (Value.slice ao n cap).ownBlock = some k → B ≤ k ∧ k < w.heap.size := fun k hk => hs.bound k hk
  have hBM : B ≤ w.heap.size := by
    obtain ⟨us, h1, h2, h3, _⟩ := h
    obtain ⟨g, rfl, _⟩ := h1.at (by omega)
    have := hB g rfl; omega
  obtain ⟨g, rfl, h1, ⟨v0, h2⟩, h3, h4⟩ := OwnTab.setRow (OwnTab.grown h (grown_alloc w (.cells #[] 3) none)) (by decide) hBM k hk (r := []) (own_lit 3 w #[] (by simp))
  exact ⟨g, v0, rfl, h1, h2, h3, OwnTab.now h4, fun B' u xs hu => Own.apart (OwnI.grown hu (grown_alloc w (.cells #[] 3) none)) (row := some g) (grown_set _ _ _ _) (own_types (OwnI.grown hu (grown_alloc w (.cells #[] 3) none)) (hs.grown (grown_alloc w (.cells #[] 3) none)) (by decide))⟩
set_option maxHeartbeats 8000000 in
theorem drawPiecesRepair_any (w : World) (ao : Option Addr) (n cap : Nat) (hco : CodeAt w ao n cap) :
    Calls Try.prog 39 #[.slice ao n cap] w (DrawRPost w) := by
  go_enter Try.func39, Try.ntmps39
  go_wp2_with fail
  refine (l6Open_any _ _ _ _ hco).mono ?_
  rintro e w1 ⟨rb, rfl, z1, g1, r1⟩
  go_wp2_with fail
  refine (l91List_any rb 0 14 (by omega) _ r1 (by omega)).mono ?_
  rintro e w2 ⟨xs, a2, cap2, l2, rfl, o2, g2, r2⟩
  have hrb1 := r1.lt
  have s2 := g2.size
  go_wp2_with fail
  refine (piecesCutS_any _ _ _ _ xs (OwnI.ints o2).1 (by omega)).mono ?_
  rintro e w3 ⟨v3, rfl, o3, g3⟩
  have s3 := g3.size
  have CL := (cutL_rows xs).1
  obtain ⟨L, hL⟩ : ∃ L, cutL xs = L := ⟨_, rfl⟩
  rw [hL] at o3 CL
  clear hL
  obtain ⟨a3, c3, rfl, t3⟩ := OwnR.shape o3
  obtain ⟨K, hK⟩ : ∃ K, L.length = K := ⟨_, rfl⟩
  rw [hK] at t3 o3 CL ⊢
  have LL := Lib.hid hK
  have G3 := grown_trans (grown_new g1 g2 z1) g3
  have R3 := r2.grown g3
  clear hK o2 g1 g2 g3 r1 r2
  go_wp2_with fail
  refine (piecesParityS_any _ _ _ _ L t3).mono ?_
  rintro e w4 ⟨a4, c4, rfl, o4, g4⟩
  have s4 := g4.size
  have T4 := Lib.hid (OwnR.now (OwnR.grown o3 g4))
  have P4 := Lib.hid o4
  have G4 := Lib.hid (grown_trans G3 g4)
  have R4 := Lib.hid (R3.grown g4)
  obtain ⟨par, hpar⟩ : ∃ p, parityL L = p := ⟨_, rfl⟩
  rw [hpar] at P4 ⊢
  clear hpar o3 o4 g4 G3 R3 t3
  by_cases hK0 : K = 0
  · have kn : ¬ 0 < K := by omega
    have kn2 : ¬ (0 : Int) < (K : Int) := by omega
    clear hK0
    go_wp2_with fail
    refine (pick_any _ 12 (400) _ R4.out (by omega) (by omega) (by omega)).mono ?_
    rintro e w8 ⟨v8, rfl, k8, g8, r8⟩
    have T8 := Lib.hid (OwnR.now (OwnR.row T4.out g8 (fun b e => .inl (by simp at e; omega))))
    have P8 := Lib.hid (OwnI.row P4.out g8 (fun b e => by simp at e; omega))
    have G8 := Lib.hid (grown_new G4.out g8 z1)
    have R8 := Lib.hid r8
    have s8 := g8.size
    clear T4 P4 G4 R4 g8 r8
    by_cases h0 : v8 = 0
    · subst h0
      by_cases hKz : 0 < K
      case neg =>
        have kn2 : ¬ (0 : Int) < (K : Int) := by omega
        go_wp2_with fail
        go_ret2
        exact drawR_post T8.out P8.out G8.out
      case pos => exact absurd hKz kn
    by_cases h1 : v8 = 1
    · subst h1
      go_wp2_with fail
      refine (l91List_any rb (400 + 1) 3 (by omega) _ R8.out (by omega)).mono ?_
      rintro e w9 ⟨ys, a9, c9, l9, rfl, o9, g9, r9⟩
      have T9 := Lib.hid (OwnR.row T8.out g9 (fun b e => .inl (by simp at e; omega)))
      have G9 := Lib.hid (grown_new G8.out g9 z1)
      have O9 := Lib.hid o9
      clear T8 P8 G8 R8 g9 r9 o9
      go_wp2
      go_ret2
      exact drawR_post T9.out O9.out G9.out
    by_cases h2 : v8 = 2
    · subst h2
      have o9 := own_lit 3 w8 #[.int .i64 1] (by simp)
      have X9 : Hid (OwnI w8.heap.size ((w8.alloc (.cells #[.int .i64 1] 3)).alloc (.cells #[.slice (some ⟨w8.heap.size, 0, none⟩) 1 1] 22)) (.slice (some ⟨w8.heap.size, 0, none⟩) 1 1) [1]) := Lib.hid (OwnI.grown (xs := [1]) o9 (grown_alloc _ _ _))
      have y9 := one_lst (w8.alloc (.cells #[.int .i64 1] 3)) (.slice (some ⟨w8.heap.size, 0, none⟩) 1 1)
      have z9 : (w8.alloc (.cells #[.int .i64 1] 3)).heap.size = w8.heap.size + 1 := by simp
      rw [z9] at y9
      have Y9 := Lib.hid y9
      clear y9 z9
      have gz := grown_trans (grown_alloc w8 (.cells #[.int .i64 1] 3) none) (grown_alloc _ (.cells #[.slice (some ⟨w8.heap.size, 0, none⟩) 1 1] 22) none)
      have T9 := Lib.hid (OwnR.grown T8.out gz)
      have P9 := Lib.hid (OwnI.grown P8.out gz)
      have G9 := Lib.hid (grown_trans G8.out gz)
      have Z9 := Lib.hid gz.size
      have zB : w2.heap.size ≤ w8.heap.size := by omega
      have SP := Lib.hid (OwnTab.spine T9.out)
      clear T8 P8 G8 R8 o9 gz
      go_wp2_with (at_builtin; refine app_rows rfl (.tmp 49) (.tmp 51) rfl T9.out X9.out Y9.out rfl rfl zB Z9.out (by rw [LL.out]; omega) ?_; intro va wa oa ga; refine Hid.out ?_)
      show wpList _ _ _ _ _ _
      obtain ⟨vsp, hsp⟩ := SP.out
      have TA := Lib.hid oa
      have PA := Lib.hid (Own.apart P9.out ga (own_types P9.out hsp (by decide)))
      have GA := Lib.hid (grown_own G9.out hsp ga (by omega))
      clear oa ga hsp T9 P9 G9
      go_wp2
      go_ret2
      exact drawR_post TA.out PA.out GA.out
    · have t0 : ((v8 : Int) == 0) = false := by simp; omega
      have t1 : ((v8 : Int) == 1) = false := by simp; omega
      have t2 : ((v8 : Int) == 2) = false := by simp; omega
      go_wp2_with fail
      go_ret2
      exact drawR_post T8.out P8.out G8.out
  · have kp0 : (0 : Int) < (K : Int) := by omega
    have kp1 : 0 < K := by omega
    go_wp2_with fail
    refine (pick_any _ 6 400 _ R4.out (by omega) (by omega) (by omega)).mono ?_
    rintro e w5 ⟨v5, rfl, k5, g5, r5⟩
    have T5 := Lib.hid (OwnR.now (OwnR.row T4.out g5 (fun b e => .inl (by simp at e; omega))))
    have P5 := Lib.hid (OwnI.row P4.out g5 (fun b e => by simp at e; omega))
    have G5 := Lib.hid (grown_new G4.out g5 z1)
    have R5 := Lib.hid r5
    have s5 := g5.size
    clear T4 P4 G4 R4 g5 r5
    by_cases h5 : v5 = 0
    · subst h5
      go_wp2_with fail
      refine (pick_any _ 12 (401) _ R5.out (by omega) (by omega) (by omega)).mono ?_
      rintro e w8 ⟨v8, rfl, k8, g8, r8⟩
      have T8 := Lib.hid (OwnR.now (OwnR.row T5.out g8 (fun b e => .inl (by simp at e; omega))))
      have P8 := Lib.hid (OwnI.row P5.out g8 (fun b e => by simp at e; omega))
      have G8 := Lib.hid (grown_new G5.out g8 z1)
      have R8 := Lib.hid r8
      have s8 := g8.size
      clear T5 P5 G5 R5 g8 r8
      by_cases h0 : v8 = 0
      · subst h0
        by_cases hKz : 0 < K
        case neg => exact absurd kp1 hKz
        case pos =>
          have kp : (0 : Int) < (K : Int) := by omega
          have kp2 : 0 < K := by omega
          go_wp2_with fail
          refine (pick_any _ (K : Int) (401 + 1) _ R8.out (by omega) (by omega) (by omega)).mono ?_
          rintro e w9 ⟨v9, rfl, k9, g9, r9⟩
          have kk9 : v9 < K := by omega
          have T9 := Lib.hid (OwnR.now (OwnR.row T8.out g9 (fun b e => .inl (by simp at e; omega))))
          have P9 := Lib.hid (OwnI.row P8.out g9 (fun b e => by simp at e; omega))
          have G9 := Lib.hid (grown_new G8.out g9 z1)
          clear T8 P8 G8 R8 g9 r9
          obtain ⟨gs, vs0, es, hsB, cs, fs, ts, ps⟩ := strike T9.out v9 (by rw [LL.out]; omega)
          (first | subst es | (have es2 := es.symm; simp only [Option.some.injEq, Addr.mk.injEq, and_true] at es2; subst es2))
          have TA := Lib.hid ts
          have PA := Lib.hid (ps _ _ _ P9.out)
          have GA := Lib.hid (gSet (gAlloc G9.out (.cells #[] 3)) (p := ⟨gs, v9, none⟩) (by show w.heap.size ≤ gs; omega) (.slice (some ⟨w9.heap.size, 0, none⟩) 0 0))
          have i9 : (0 : Int) ≤ (v9 : Int) := by omega
          have j9 : (v9 : Int) < K := by omega
          clear ts ps T9 P9 G9
          go_wp2
          go_ret2
          exact drawR_post TA.out PA.out GA.out
      by_cases h1 : v8 = 1
      · subst h1
        go_wp2_with fail
        refine (l91List_any rb (401 + 1) 3 (by omega) _ R8.out (by omega)).mono ?_
        rintro e w9 ⟨ys, a9, c9, l9, rfl, o9, g9, r9⟩
        have T9 := Lib.hid (OwnR.row T8.out g9 (fun b e => .inl (by simp at e; omega)))
        have G9 := Lib.hid (grown_new G8.out g9 z1)
        have O9 := Lib.hid o9
        clear T8 P8 G8 R8 g9 r9 o9
        go_wp2
        go_ret2
        exact drawR_post T9.out O9.out G9.out
      by_cases h2 : v8 = 2
      · subst h2
        have o9 := own_lit 3 w8 #[.int .i64 1] (by simp)
        have X9 : Hid (OwnI w8.heap.size ((w8.alloc (.cells #[.int .i64 1] 3)).alloc (.cells #[.slice (some ⟨w8.heap.size, 0, none⟩) 1 1] 22)) (.slice (some ⟨w8.heap.size, 0, none⟩) 1 1) [1]) := Lib.hid (OwnI.grown (xs := [1]) o9 (grown_alloc _ _ _))
        have y9 := one_lst (w8.alloc (.cells #[.int .i64 1] 3)) (.slice (some ⟨w8.heap.size, 0, none⟩) 1 1)
        have z9 : (w8.alloc (.cells #[.int .i64 1] 3)).heap.size = w8.heap.size + 1 := by simp
        rw [z9] at y9
        have Y9 := Lib.hid y9
        clear y9 z9
        have gz := grown_trans (grown_alloc w8 (.cells #[.int .i64 1] 3) none) (grown_alloc _ (.cells #[.slice (some ⟨w8.heap.size, 0, none⟩) 1 1] 22) none)
        have T9 := Lib.hid (OwnR.grown T8.out gz)
        have P9 := Lib.hid (OwnI.grown P8.out gz)
        have G9 := Lib.hid (grown_trans G8.out gz)
        have Z9 := Lib.hid gz.size
        have zB : w2.heap.size ≤ w8.heap.size := by omega
        have SP := Lib.hid (OwnTab.spine T9.out)
        clear T8 P8 G8 R8 o9 gz
        go_wp2_with (at_builtin; refine app_rows rfl (.tmp 49) (.tmp 51) rfl T9.out X9.out Y9.out rfl rfl zB Z9.out (by rw [LL.out]; omega) ?_; intro va wa oa ga; refine Hid.out ?_)
        show wpList _ _ _ _ _ _
        obtain ⟨vsp, hsp⟩ := SP.out
        have TA := Lib.hid oa
        have PA := Lib.hid (Own.apart P9.out ga (own_types P9.out hsp (by decide)))
        have GA := Lib.hid (grown_own G9.out hsp ga (by omega))
        clear oa ga hsp T9 P9 G9
        go_wp2
        go_ret2
        exact drawR_post TA.out PA.out GA.out
      · have t0 : ((v8 : Int) == 0) = false := by simp; omega
        have t1 : ((v8 : Int) == 1) = false := by simp; omega
        have t2 : ((v8 : Int) == 2) = false := by simp; omega
        go_wp2_with fail
        go_ret2
        exact drawR_post T8.out P8.out G8.out
    · have h5p : (0 : Int) < (v5 : Int) := by omega
      have h5q : 0 < v5 := by omega
      go_wp2_with fail
      refine (pick_any _ (K : Int) 401 _ R5.out (by omega) (by omega) (by omega)).mono ?_
      rintro e w6 ⟨v6, rfl, k6, g6, r6⟩
      have kk6 : v6 < K := by omega
      have T6 := Lib.hid (OwnR.now (OwnR.row T5.out g6 (fun b e => .inl (by simp at e; omega))))
      have P6 := Lib.hid (OwnI.row P5.out g6 (fun b e => by simp at e; omega))
      have G6 := Lib.hid (grown_new G5.out g6 z1)
      have R6 := Lib.hid r6
      have s6 := g6.size
      clear T5 P5 G5 R5 g6 r6
      obtain ⟨gt, vt0, et, htB, ct, ft, tt, pt⟩ := strike T6.out v6 (by rw [LL.out]; omega)
      subst et
      have T7 := Lib.hid tt
      have P7 := Lib.hid (pt _ _ _ P6.out)
      have G7 := Lib.hid (gSet (gAlloc G6.out (.cells #[] 3)) (p := ⟨gt, v6, none⟩) (by show w.heap.size ≤ gt; omega) (.slice (some ⟨w6.heap.size, 0, none⟩) 0 0))
      have R7 := Lib.hid ((R6.out.al (.cells #[] 3)).set (p := ⟨gt, v6, none⟩) (by show rb < gt; omega) (.slice (some ⟨w6.heap.size, 0, none⟩) 0 0))
      have L7 := Lib.hid (show (L.set v6 []).length = K by rw [List.length_set]; exact LL.out)
      have s7 := (grown_trans (grown_alloc w6 (.cells #[] 3) (some gt)) (grown_set _ gt v6 (.slice (some ⟨w6.heap.size, 0, none⟩) 0 0))).size
      have i6 : (0 : Int) ≤ (v6 : Int) := by omega
      have j6 : (v6 : Int) < K := by omega
      clear tt pt T6 P6 G6 R6
      go_wp2_with fail
      refine (pick_any _ 12 (402) _ R7.out (by omega) (by omega) (by omega)).mono ?_
      rintro e w8 ⟨v8, rfl, k8, g8, r8⟩
      have T8 := Lib.hid (OwnR.now (OwnR.row T7.out g8 (fun b e => .inl (by simp at e; omega))))
      have P8 := Lib.hid (OwnI.row P7.out g8 (fun b e => by simp at e; omega))
      have G8 := Lib.hid (grown_new G7.out g8 z1)
      have R8 := Lib.hid r8
      have s8 := g8.size
      clear T7 P7 G7 R7 g8 r8
      by_cases h0 : v8 = 0
      · subst h0
        by_cases hKz : 0 < K
        case neg => exact absurd kp1 hKz
        case pos =>
          have kp : (0 : Int) < (K : Int) := by omega
          have kp2 : 0 < K := by omega
          go_wp2_with fail
          refine (pick_any _ (K : Int) (402 + 1) _ R8.out (by omega) (by omega) (by omega)).mono ?_
          rintro e w9 ⟨v9, rfl, k9, g9, r9⟩
          have kk9 : v9 < K := by omega
          have T9 := Lib.hid (OwnR.now (OwnR.row T8.out g9 (fun b e => .inl (by simp at e; omega))))
          have P9 := Lib.hid (OwnI.row P8.out g9 (fun b e => by simp at e; omega))
          have G9 := Lib.hid (grown_new G8.out g9 z1)
          clear T8 P8 G8 R8 g9 r9
          obtain ⟨gs, vs0, es, hsB, cs, fs, ts, ps⟩ := strike T9.out v9 (by rw [L7.out]; omega)
          (first | subst es | (have es2 := es.symm; simp only [Option.some.injEq, Addr.mk.injEq, and_true] at es2; subst es2))
          have TA := Lib.hid ts
          have PA := Lib.hid (ps _ _ _ P9.out)
          have GA := Lib.hid (gSet (gAlloc G9.out (.cells #[] 3)) (p := ⟨gs, v9, none⟩) (by show w.heap.size ≤ gs; omega) (.slice (some ⟨w9.heap.size, 0, none⟩) 0 0))
          have i9 : (0 : Int) ≤ (v9 : Int) := by omega
          have j9 : (v9 : Int) < K := by omega
          clear ts ps T9 P9 G9
          go_wp2
          go_ret2
          exact drawR_post TA.out PA.out GA.out
      by_cases h1 : v8 = 1
      · subst h1
        go_wp2_with fail
        refine (l91List_any rb (402 + 1) 3 (by omega) _ R8.out (by omega)).mono ?_
        rintro e w9 ⟨ys, a9, c9, l9, rfl, o9, g9, r9⟩
        have T9 := Lib.hid (OwnR.row T8.out g9 (fun b e => .inl (by simp at e; omega)))
        have G9 := Lib.hid (grown_new G8.out g9 z1)
        have O9 := Lib.hid o9
        clear T8 P8 G8 R8 g9 r9 o9
        go_wp2
        go_ret2
        exact drawR_post T9.out O9.out G9.out
      by_cases h2 : v8 = 2
      · subst h2
        have o9 := own_lit 3 w8 #[.int .i64 1] (by simp)
        have X9 : Hid (OwnI w8.heap.size ((w8.alloc (.cells #[.int .i64 1] 3)).alloc (.cells #[.slice (some ⟨w8.heap.size, 0, none⟩) 1 1] 22)) (.slice (some ⟨w8.heap.size, 0, none⟩) 1 1) [1]) := Lib.hid (OwnI.grown (xs := [1]) o9 (grown_alloc _ _ _))
        have y9 := one_lst (w8.alloc (.cells #[.int .i64 1] 3)) (.slice (some ⟨w8.heap.size, 0, none⟩) 1 1)
        have z9 : (w8.alloc (.cells #[.int .i64 1] 3)).heap.size = w8.heap.size + 1 := by simp
        rw [z9] at y9
        have Y9 := Lib.hid y9
        clear y9 z9
        have gz := grown_trans (grown_alloc w8 (.cells #[.int .i64 1] 3) none) (grown_alloc _ (.cells #[.slice (some ⟨w8.heap.size, 0, none⟩) 1 1] 22) none)
        have T9 := Lib.hid (OwnR.grown T8.out gz)
        have P9 := Lib.hid (OwnI.grown P8.out gz)
        have G9 := Lib.hid (grown_trans G8.out gz)
        have Z9 := Lib.hid gz.size
        have zB : w2.heap.size ≤ w8.heap.size := by omega
        have SP := Lib.hid (OwnTab.spine T9.out)
        clear T8 P8 G8 R8 o9 gz
        go_wp2_with (at_builtin; refine app_rows rfl (.tmp 49) (.tmp 51) rfl T9.out X9.out Y9.out rfl rfl zB Z9.out (by rw [L7.out]; omega) ?_; intro va wa oa ga; refine Hid.out ?_)
        show wpList _ _ _ _ _ _
        obtain ⟨vsp, hsp⟩ := SP.out
        have TA := Lib.hid oa
        have PA := Lib.hid (Own.apart P9.out ga (own_types P9.out hsp (by decide)))
        have GA := Lib.hid (grown_own G9.out hsp ga (by omega))
        clear oa ga hsp T9 P9 G9
        go_wp2
        go_ret2
        exact drawR_post TA.out PA.out GA.out
      · have t0 : ((v8 : Int) == 0) = false := by simp; omega
        have t1 : ((v8 : Int) == 1) = false := by simp; omega
        have t2 : ((v8 : Int) == 2) = false := by simp; omega
        go_wp2_with fail
        go_ret2
        exact drawR_post T8.out P8.out G8.out
end Go.Proofs.Ytkacopgfnkoifaa
