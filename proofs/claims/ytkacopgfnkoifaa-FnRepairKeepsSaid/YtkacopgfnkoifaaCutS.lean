/- PiecesCut of the reference. -/
import Derived.Test.YtkacopgfnkoifaaCut
import Derived.WalkKit
import Derived.Lib.Hide
import Derived.Deep.QuietTactic
import Derived.BigQuiet
namespace Go.Proofs.Ytkacopgfnkoifaa
open Go.RowKit
def lenV : Value → Nat
  | .slice _ n _ => n
  | _ => 0
theorem l23Count_any (n : Nat) (hn : n ≤ 1000000000) (w : World) : Calls Try.prog 42 #[.int .i64 n] w fun e w' => e = .returned (.int .i64 (cutC n : Nat)) ∧ w = w' := by
  have e : ((n : Int) + 3) / 3 = (cutC n : Nat) := by unfold cutC; omega
  have e2 : (n + 3) / 3 = cutC n := rfl
  go_enter Try.func42, Try.ntmps42
  go_wp2
  go_ret
  exact ⟨rfl, rfl⟩
theorem own_oneI (w : World) (z : Int) : OwnI w.heap.size (w.alloc (.cells #[.int .i64 z] 3)) (.slice (some ⟨w.heap.size, 0, none⟩) 1 1) [z] := own_lit 3 w #[.int .i64 z] (by simp)
theorem pad_step (xs : List Int) (k : Nat) : ((xs.length : Int) :: (xs ++ List.replicate k 0)) ++ [0] = (xs.length : Int) :: (xs ++ List.replicate (k + 1) 0) := by
  rw [List.replicate_succ']; simp
set_option maxHeartbeats 2000000 in
theorem piecesCutS_any (w : World) (ao : Option Addr) (n cap : Nat) (xs : List Int) (h : IntsAt w ao n cap xs) (hn : n ≤ 1000000000) :
    Calls Try.prog 18 #[.slice ao n cap] w (CutPost w (cutL xs)) := by
  have hl := h.len
  have hm := RowAt.max h
  have hnm := RowAt.le h
  have H := Lib.hid hl
  clear hl
  have N0 := Lib.hid (OwnR.now (ownR_nil w.heap.size w (Nat.le_refl _)))
  have g0 := grown_alloc w (.cells #[] 22) none
  have hA := h.grown g0
  cases hp : pb (ListP xs)
  · have A := Lib.hid (cutL_no (xs := xs) fun e => (pb_not.1 hp) e.1)
    have K := Lib.hid hp
    clear hp
    go_enter Try.func18, Try.ntmps18
    go_wp2_with (go_at_call 41; refine (l2List_any _ _ _ _ _ hA).mono ?_; rintro e w' ⟨rfl, rfl⟩; rw [K.out])
    go_ret
    exact ⟨_, rfl, by rw [A.out]; exact N0.out, g0⟩
  · have hL := pb_iff.1 hp
    have n24 : n ≤ 24 := by have := hL.1; have := H.out; omega
    have HLp := Lib.hid hL
    have K := Lib.hid hp
    clear hp hL
    obtain ⟨c, hc⟩ : ∃ c, cutC n = c := ⟨_, rfl⟩
    have c1 : n + 1 ≤ c * 3 := by rw [← hc]; exact cutC_ge n
    have c2 : c ≤ 9 := by rw [← hc]; unfold cutC; omega
    have c3 : c * 3 ≤ n + 3 := by rw [← hc]; exact cutC_le n
    have HC := Lib.hid hc
    by_cases h5 : (5 : Int) < (c : Int)
    · have A := Lib.hid (cutL_no (xs := xs) fun e => by have := e.2; rw [H.out, hc] at this; omega)
      clear hc
      go_enter Try.func18, Try.ntmps18
      go_wp2_with (first | (go_at_call 41; refine (l2List_any _ _ _ _ _ hA).mono ?_; rintro e w' ⟨rfl, rfl⟩; rw [K.out]) | (go_at_call 42; refine (l23Count_any _ hn _).mono ?_; rintro e w' ⟨rfl, rfl⟩; rw [HC.out]))
      go_ret
      exact ⟨_, rfl, by rw [A.out]; exact N0.out, g0⟩
    · have A := Lib.hid (cutL_yes (xs := xs) ⟨HLp.out, by rw [H.out, hc]; omega⟩)
      clear hc
      have i1 := own_oneI (w.alloc (.cells #[] 22)) (n : Int)
      rw [show (w.alloc (.cells #[] 22)).heap.size = w.heap.size + 1 by simp] at i1
      have I1 := Lib.hid i1
      clear i1
      have G1 := Lib.hid (gAlloc g0 (.cells #[.int .i64 n] 3))
      have S1 := Lib.hid (hA.grown (grown_alloc _ (.cells #[.int .i64 n] 3) none))
      have N1 := Lib.hid (OwnR.grown (M := w.heap.size + 1) (by have := N0.out; simpa using this)  (grown_alloc _ (.cells #[.int .i64 n] 3) none))
      have Z1 := Lib.hid (show w.heap.size + 1 ≤ ((w.alloc (.cells #[] 22)).alloc (.cells #[.int .i64 n] 3)).heap.size by simp)
      clear N0
      go_enter Try.func18, Try.ntmps18
      go_wp2_with (first | (go_at_call 41; refine (l2List_any _ _ _ _ _ hA).mono ?_; rintro e w' ⟨rfl, rfl⟩; rw [K.out]) | (go_at_call 42; refine (l23Count_any _ hn _).mono ?_; rintro e w' ⟨rfl, rfl⟩; rw [HC.out]) | (at_builtin; refine app_ints rfl (.tmp 19) (.tmp 20) rfl I1.out S1.out rfl rfl Z1.out (by have := H.out; simp; omega) ?_; intro v3 w3 o3 g3; refine Hid.out ?_))
      show wpList _ _ _ _ _ _
      have bnd := fun k e => (World.ownsRow.lt I1.out k e).1
      have N3 := Lib.hid (N1.out.row g3 (fun k e => .inr (bnd k e)))
      have G3 := Lib.hid (grown_own G1.out I1.out g3 (by omega))
      have Z3 := Lib.hid (Nat.le_trans Z1.out g3.size)
      have O3 : Hid (OwnI (w.heap.size + 1) w3 v3 ((xs.length : Int) :: (xs ++ List.replicate 0 0))) := by
        have : OwnI (w.heap.size + 1) w3 v3 ((n : Int) :: (xs ++ List.replicate 0 0)) := by simpa using o3
        rw [H.out]
        exact this
      clear bnd o3 g3 I1 G1 S1 N1 Z1 h hA g0
      go_wp2
      go_loopw [4] (fun v wr => ∃ k : Nat, n + 1 + k ≤ c * 3 ∧ lenV v = n + 1 + k ∧ Hid (OwnI (w.heap.size + 1) wr v ((xs.length : Int) :: (xs ++ List.replicate k 0))) ∧ Hid (OwnR w.heap.size (w.heap.size + 1) wr (.slice (some ⟨w.heap.size, 0, none⟩) 0 0) []) ∧ Hid (w.grownBy wr none) ∧ Hid (w.heap.size + 1 ≤ wr.heap.size)) (fun v _ => c * 3 - lenV v)
      case atStart => exact ⟨0, by omega, by have := OwnI.shape O3.out; obtain ⟨_, _, rfl, _⟩ := this; have := H.out; simp [lenV]; omega, O3, N3, G3, Z3⟩
      case round =>
        clear O3 N3 G3 Z3
        obtain ⟨k, hk, hlen, ho, hr, hg, hz⟩ := hrel
        have SH := OwnI.shape ho.out
        have HLN : ((xs.length : Int) :: (xs ++ List.replicate k 0)).length = n + 1 + k := by have := H.out; simp; omega
        rw [HLN] at SH
        obtain ⟨q1, q2, rfl, hints, _⟩ := SH
        clear hlen
        have HI := Lib.hid hints
        have HLH := Lib.hid HLN
        clear hints HLN
        by_cases hmod : (n + 1 + k) % 3 = 0
        · have hfull : n + 1 + k = c * 3 := by omega
          have hmod2 : ((n : Int) + 1 + k) % 3 = 0 := by omega
          have P0 : (xs.length : Int) :: (xs ++ List.replicate k 0) = padL xs := by
            unfold padL
            rw [H.out, HC.out]
            congr 3
            omega
          have o4 := ho.out
          have HI4 := HI.out
          rw [P0] at o4 HI4
          have O4 := Lib.hid o4
          have I4 := Lib.hid HI4
          clear o4 HI4 P0 ho HI HLH
          obtain ⟨L, hLn⟩ : ∃ L, n + 1 + k = L := ⟨_, rfl⟩
          rw [hLn] at O4 I4
          have hL3 : L = c * 3 := by omega
          have hm3 : (L : Int) % 3 = 0 := by omega
          have hm4 : ((n : Int) + 1 + (k : Int)) = L := by omega
          rw [hLn]
          clear hmod hmod2 hfull hk hm4
          subst hL3
          have R4 := Lib.hid (OwnR.now hr.out)
          have G4 := Lib.hid hg.out
          have Z4 := Lib.hid hz.out
          clear hr hg hz I4
          go_wp2
          go_loopw [3, 5] (fun v q wr => ∃ j t : Nat, j ≤ c ∧ q = .int .i64 t ∧ t = j * 3 ∧ Hid (OwnR w.heap.size wr.heap.size wr v (chunks (padL xs) j)) ∧ Hid (OwnI (w.heap.size + 1) wr (.slice q1 (c * 3) q2) (padL xs)) ∧ Hid (w.grownBy wr none) ∧ Hid (w.heap.size + 1 ≤ wr.heap.size)) (fun _ q _ => c * 3 - (intOf q).toNat)
          case atStart => exact ⟨0, 0, by omega, rfl, rfl, R4, O4, G4, Z4⟩
          case round =>
            clear R4 O4 G4 Z4
            obtain ⟨j, t, hj, rfl, ht, ho, hall, hg, hz⟩ := hrel
            obtain ⟨wo, rfl⟩ : ∃ wo : World, wo = wr := ⟨_, rfl⟩
            have zo := hg.out.size
            by_cases hin : t < c * 3
            · have hj2 : j < c := by omega
              have ht3 : t + 3 ≤ c * 3 := by omega
              have hq9 := RowAt.le (OwnI.ints hall.out).1
              have hqt : ¬ q2 = t := by omega
              obtain ⟨b, off, rfl, _, _⟩ := IntsAt.addr (OwnI.ints hall.out).1 (by omega)
              have s1 := IntsAt.sub (IntsAt.grown (OwnI.ints hall.out).1 (grown_alloc wo (.cells #[] 3) none)) t (t + 3) (by omega) ht3
              have S1 := Lib.hid s1
              have PL := Lib.hid (show (((padL xs).take (t + 3)).drop t) = pieceAt (padL xs) j from by unfold pieceAt; rw [ht, Nat.add_mul, Nat.one_mul])
              have PN := Lib.hid (pieceAt_len (padL xs) j (by rw [padL_len, H.out, HC.out]; omega))
              have HT := Lib.hid ht
              have I0 := Lib.hid (own_nil wo.heap.size wo (Nat.le_refl _))
              have T0 := Lib.hid (OwnR.grown ho.out (grown_alloc wo (.cells #[] 3) none))
              have A0 := Lib.hid (OwnI.grown hall.out (grown_alloc wo (.cells #[] 3) none))
              have G1 := Lib.hid (gAlloc hg.out (.cells #[] 3))
              have Z1 := Lib.hid (show wo.heap.size ≤ (wo.alloc (.cells #[] 3)).heap.size by simp)
              have hall2 := hall.out.blockIn
              clear s1 ho hall hg ht
              go_wp2_with (at_builtin; refine app_ints rfl (.tmp 36) (.tmp 41) rfl I0.out S1.out rfl rfl Z1.out (by rw [PL.out, PN.out, List.length_nil]; omega) ?_; intro v9 w9 o9 g9; refine Hid.out ?_)
              show wpList _ _ _ _ _ _
              have bnd := fun k e => (World.ownsRow.lt I0.out k e).1
              rw [List.nil_append, PL.out] at o9
              have SH9 := OwnI.shape o9
              rw [PN.out] at SH9
              obtain ⟨r1, r2, rfl, _⟩ := SH9
              have T9 := OwnR.row T0.out g9 (fun k e => .inr (bnd k e))
              have A9 := A0.out.other g9 (.inl ⟨fun k e => (hall2 k e).2, fun k e => bnd k e⟩)
              have G9 := grown_own G1.out I0.out g9 (by omega)
              have Z9 := Nat.le_trans Z1.out g9.size
              have Y := Lib.hid (one_lst w9 (.slice r1 3 r2))
              have O2 := Lib.hid (OwnI.grown o9 (grown_alloc w9 (.cells #[.slice r1 3 r2] 22) none))
              have T2 := Lib.hid (OwnR.grown T9 (grown_alloc w9 (.cells #[.slice r1 3 r2] 22) none))
              have A2 := Lib.hid (OwnI.grown A9 (grown_alloc w9 (.cells #[.slice r1 3 r2] 22) none))
              have G2 := Lib.hid (gAlloc G9 (.cells #[.slice r1 3 r2] 22))
              have HB := Lib.hid (show wo.heap.size ≤ (w9.alloc (.cells #[.slice r1 3 r2] 22)).heap.size by simp; omega)
              have HZ := Lib.hid hz.out
              clear bnd o9 g9 T9 A9 G9 Z9 I0 S1 Z1 T0 A0 G1 hall2 hz
              go_wp2_with (at_builtin; refine app_rows rfl (.tmp 35) (.tmp 43) rfl T2.out O2.out Y.out rfl rfl zo HB.out (by rw [chunks_len]; omega) ?_; intro v12 w12 o12 g12; refine Hid.out ?_)
              show wpList _ _ _ _ _ _
              obtain ⟨vs9, hh9⟩ := OwnTab.spine T2.out
              have G12 := Lib.hid (grown_own G2.out hh9 g12 (Nat.le_refl _))
              have A12 := Lib.hid (Own.apart A2.out g12 (own_types A2.out hh9 (by decide)))
              have Z12 := Lib.hid (Nat.le_trans HZ.out (Nat.le_trans HB.out g12.size))
              have O12 := Lib.hid o12
              clear hh9 vs9 o12 g12 T2 O2 A2 G2 Y HB HZ
              go_wp2
              go_roundw
              case rel => exact ⟨j + 1, t + 3, by omega, by go_num, by have := HT.out; omega, by rw [chunks_step]; exact O12, A12.out, G12, Z12⟩
              case measure => simp [intOf]; omega
            · have hin' : j = c := by omega
              subst hin'
              have HR : Hid (OwnR w.heap.size wo.heap.size wo u3 (cutL xs)) := by
                rw [A.out, H.out, HC.out]
                exact ho.out
              go_wp2
              go_ret
              exact ⟨_, rfl, HR.out, hg.out⟩
        · have hmod2 : ¬ ((n : Int) + 1 + k) % 3 = 0 := by omega
          have hk2 : n + 1 + (k + 1) ≤ c * 3 := by omega
          obtain ⟨L, hLn⟩ : ∃ L, n + 1 + k = L := ⟨_, rfl⟩
          have hL5 : L ≤ 40 := by omega
          have hm3 : ¬ (L : Int) % 3 = 0 := by omega
          rw [hLn] at ho HLH
          rw [hLn]
          have Y := Lib.hid (one_int wr 0)
          have O5 := Lib.hid (OwnI.grown ho.out (grown_alloc wr (.cells #[.int .i64 0] 3) none))
          have R5 := Lib.hid (OwnR.grown hr.out (grown_alloc wr (.cells #[.int .i64 0] 3) none))
          have G5 := Lib.hid (gAlloc hg.out (.cells #[.int .i64 0] 3))
          have HB := Lib.hid (show w.heap.size + 1 ≤ (wr.alloc (.cells #[.int .i64 0] 3)).heap.size by have := hz.out; simp; omega)
          clear ho hr hg hz HI hmod hmod2
          go_wp2_with (at_builtin; refine app_ints rfl (.tmp 26) (.tmp 27) rfl O5.out Y.out rfl rfl HB.out (by rw [HLH.out]; simp; omega) ?_; intro v9 w9 o9 g9; refine Hid.out ?_)
          show wpList _ _ _ _ _ _
          have bnd := fun k e => (World.ownsRow.lt O5.out k e).1
          have R9 := Lib.hid (R5.out.row g9 (fun k e => .inr (bnd k e)))
          have G9 := Lib.hid (grown_own G5.out O5.out g9 (by omega))
          have Z9 := Lib.hid (Nat.le_trans HB.out g9.size)
          rw [pad_step] at o9
          have L9 : Hid (lenV v9 = n + 1 + (k + 1)) := by
            obtain ⟨_, _, rfl, _⟩ := OwnI.shape o9
            have := H.out
            show ((xs.length : Int) :: (xs ++ List.replicate (k + 1) 0)).length = _
            simp; omega
          have O9 := Lib.hid o9
          clear bnd o9 g9 O5 R5 G5 Y HB
          go_wp2
          go_roundw
          case rel => exact ⟨k + 1, hk2, L9.out, O9, R9, G9, Z9⟩
          case measure =>
            have e9 := L9.out
            show c * 3 - lenV v9 < c * 3 - L
            omega
end Go.Proofs.Ytkacopgfnkoifaa
