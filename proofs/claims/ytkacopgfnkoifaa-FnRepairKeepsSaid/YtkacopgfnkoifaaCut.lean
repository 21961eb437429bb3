/- PiecesCut. -/
import Derived.Test.YtkacopgfnkoifaaPieceP
import Derived.Test.YtkacopgfnkoifaaLrows
import Derived.Test.YtkacopgfnkoifaaCopy
import Derived.WalkKit
import Derived.Lib.Hide
import Derived.Deep.QuietTactic
import Derived.BigQuiet
namespace Go.Proofs.Ytkacopgfnkoifaa
open Go.RowKit
theorem pad_start (xs : List Int) (k : Nat) (hk : k = cutC xs.length * 3) : ((List.replicate k (0 : Int)).set 0 (xs.length : Int)).take 1 ++ (xs ++ ((List.replicate k (0 : Int)).set 0 (xs.length : Int)).drop (1 + xs.length)) = padL xs := by
  have hge := cutC_ge xs.length
  obtain ⟨j, rfl⟩ : ∃ j, k = j + 1 := ⟨k - 1, by omega⟩
  rw [List.replicate_succ, List.set_cons_zero]
  simp only [List.take_succ_cons, List.take_zero, List.singleton_append, padL]
  rw [show 1 + xs.length = xs.length + 1 by omega, List.drop_succ_cons, List.drop_replicate]
  congr 3
  omega
/-- what PiecesCut returns: a table of the call's own -/
def CutPost (w : World) (rows : List (List Int)) (e : Ending) (w' : World) : Prop :=
  ∃ v, e = .returned v ∧ OwnR w.heap.size w'.heap.size w' v rows ∧ w.grownBy w' none
set_option maxHeartbeats 2000000 in
theorem piecesCut_any (w : World) (ao : Option Addr) (n cap : Nat) (xs : List Int) (h : IntsAt w ao n cap xs) (hn : n ≤ 1000000000) :
    Calls Try.prog 20 #[.slice ao n cap] w (CutPost w (cutL xs)) := by
  obtain ⟨i0, hi0, hz0, hz1, hz2⟩ := info_parts info_int
  have hl := h.len
  have hm := RowAt.max h
  have hnm := RowAt.le h
  have H := Lib.hid hl
  clear hl
  cases hp : pb (ListP xs)
  · have A := Lib.hid (cutL_no (xs := xs) fun e => (pb_not.1 hp) e.1)
    have K := Lib.hid hp
    clear hp
    go_enter Try.func20, Try.ntmps20
    go_wp2_with (go_at_call 43; refine (isList_any _ _ _ _ _ h).mono ?_; rintro e w' ⟨rfl, rfl⟩; rw [K.out])
    go_ret
    exact ⟨_, rfl, by rw [A.out]; exact ownR_none _ _ _, grown_refl _ _⟩
  · have hL := pb_iff.1 hp
    have n24 : n ≤ 24 := by have := hL.1; have := H.out; omega
    have HLp := Lib.hid hL
    have K := Lib.hid hp
    clear hp hL
    obtain ⟨c, hc⟩ : ∃ c, cutC n = c := ⟨_, rfl⟩
    have hcq : ((n : Int) + 3) / 3 = (c : Int) := by rw [← hc]; unfold cutC; omega
    have hcn : (n + 3) / 3 = c := by rw [← hc]; rfl
    have c1 : n + 1 ≤ c * 3 := by rw [← hc]; exact cutC_ge n
    have c2 : c ≤ 9 := by rw [← hc]; unfold cutC; omega
    by_cases h5 : (5 : Int) < (c : Int)
    · have A := Lib.hid (cutL_no (xs := xs) fun e => by have := e.2; rw [H.out, hc] at this; omega)
      clear hc
      go_enter Try.func20, Try.ntmps20
      go_wp2_with (go_at_call 43; refine (isList_any _ _ _ _ _ h).mono ?_; rintro e w' ⟨rfl, rfl⟩; rw [K.out])
      go_ret
      exact ⟨_, rfl, by rw [A.out]; exact ownR_none _ _ _, grown_refl _ _⟩
    · have A := Lib.hid (cutL_yes (xs := xs) ⟨HLp.out, by rw [H.out, hc]; omega⟩)
      have HC := Lib.hid hc
      clear hc
      go_enter Try.func20, Try.ntmps20
      go_wp2_with (first | (go_at_call 43; refine (isList_any _ _ _ _ _ h).mono ?_; rintro e w' ⟨rfl, rfl⟩; rw [K.out]) | (at_make; refine wpList_make_full w rfl _ _ 22 rfl w.heap.size 3 i0 (.int .i64 0) 1 Try.underlying22 hi0 hz0 hz1 .i64 .i64 (c * 3) (c * 3) (c * 3) rfl rfl rfl rfl (by rw [hz2]; omega) (by unfold maxLen; omega) (Nat.le_refl _) ?_; intro w1 o1 g1; refine Hid.out ?_))
      show wpList _ _ _ _ _ _
      rw [made_ints] at o1
      have o2 : OwnI w.heap.size w1 (.slice (some ⟨w.heap.size, 0, none⟩) (c * 3) (c * 3)) (List.replicate (c * 3) 0) := by
        unfold OwnI Own
        simpa using o1
      obtain ⟨g, e1, e2, e3, e4, hcell, hfr, hset⟩ := Own.at o2 (by rw [List.length_map, List.length_replicate]; omega)
      simp only [Option.some.injEq, Addr.mk.injEq, and_true] at e1
      clear e2 e3 e4
      subst e1
      have cz := hcell 0 (.int .i64 0) (by rw [List.getElem?_map, List.getElem?_replicate, if_pos (by omega)]; rfl)
      have fz := hfr 0
      have o3 : OwnI w.heap.size (w1.setCell ⟨w.heap.size, 0, none⟩ (.int .i64 n)) (.slice (some ⟨w.heap.size, 0, none⟩) (c * 3) (c * 3)) ((List.replicate (c * 3) 0).set 0 (n : Int)) := by
        have := hset 0 (.int .i64 n)
        unfold OwnI
        rw [List.map_set]
        exact this
      have g2 := gSet g1 (p := ⟨w.heap.size, 0, none⟩) (Nat.le_refl _) (.int .i64 n)
      have O3 := Lib.hid o3
      have HS := Lib.hid (h.grown g2)
      have G2 := Lib.hid g2
      clear o1 o2 o3 g1 g2 hset hcell hfr hi0 hz0 hz1 hz2
      go_wp2_with (refine copy_ints rfl (.tmp 26) (.tmp 27) rfl (off := 1) O3.out HS.out rfl rfl (by omega) ?_; intro w3 o9 g9; refine Hid.out ?_)
      show wpList _ _ _ _ _ _
      have p9 : IntsAt w3 (some ⟨w.heap.size, 0, none⟩) (c * 3) (c * 3) (padL xs) := by
        have := (OwnI.ints o9).1
        have e := pad_start xs (c * 3) (by rw [H.out, HC.out])
        rw [H.out] at e
        rw [e] at this
        exact this
      have G9 : w.grownBy w3 none := grown_own G2.out (v := .slice (some ⟨w.heap.size, 0, none⟩) (c * 3) (c * 3)) O3.out g9 (Nat.le_refl _)
      have P9 := Lib.hid p9
      have HG9 := Lib.hid G9
      have O0 := Lib.hid (OwnR.now (ownR_nil w3.heap.size w3 (Nat.le_refl _)))
      have G0 := Lib.hid (grown_alloc w3 (.cells #[] 22) none)
      clear o9 g9 p9 G9 O3 HS G2 cz fz h
      go_wp2_with fail
      go_loopw [5, 6, 31] (fun v u q wr => ∃ i : Nat, i ≤ c ∧ q = .int .i64 i ∧ Hid (OwnR w3.heap.size wr.heap.size wr v (chunks (padL xs) i)) ∧ Hid (w3.grownBy wr none)) (fun _ _ q _ => c - (intOf q).toNat)
      case atStart => exact ⟨0, by omega, rfl, O0, G0⟩
      case round =>
        clear O0 G0
        obtain ⟨i, hi, rfl, ho, hg⟩ := hrel
        obtain ⟨wo, rfl⟩ : ∃ wo : World, wo = wr := ⟨_, rfl⟩
        have zo := hg.out.size
        by_cases hin : i < c
        · have S := Lib.hid (IntsAt.sub (P9.out.grown hg.out) (i * 3) ((i + 1) * 3) (by omega) (by omega))
          have PL := Lib.hid (pieceAt_len (padL xs) i (by rw [padL_len, H.out, HC.out]; omega))
          have S1 := S.out
          rw [Nat.zero_add] at S1
          have S2 := Lib.hid S1
          clear S1 S
          go_wp2_with fail
          refine (clone_any _ _ _ _ (pieceAt (padL xs) i) S2.out (by omega)).mono ?_
          rintro e w5 ⟨a5, c5, rfl, o5, g5⟩
          rw [PL.out] at o5 ⊢
          have X5 := Lib.hid o5
          have T5 := Lib.hid (ho.out.grown g5)
          have G5 := Lib.hid (grown_trans hg.out g5)
          have Z5 := Lib.hid g5.size
          clear S2 PL o5 g5 ho hg
          have Y := Lib.hid (one_lst w5 (.slice a5 3 c5))
          have O2 := Lib.hid (OwnI.grown X5.out (grown_alloc w5 (.cells #[.slice a5 3 c5] 22) none))
          have T2 := Lib.hid (OwnR.grown T5.out (grown_alloc w5 (.cells #[.slice a5 3 c5] 22) none))
          have G2 := Lib.hid (gAlloc G5.out (.cells #[.slice a5 3 c5] 22))
          have HB := Lib.hid (show wo.heap.size ≤ (w5.alloc (.cells #[.slice a5 3 c5] 22)).heap.size by have := Z5.out; simp; omega)
          clear X5 T5 G5 Z5
          go_wp2_with (at_builtin; refine app_rows rfl (.tmp 34) (.tmp 43) rfl T2.out O2.out Y.out rfl rfl zo HB.out (by rw [chunks_len]; omega) ?_; intro v9 w9 o9 g9; refine Hid.out ?_)
          show wpList _ _ _ _ _ _
          obtain ⟨vs9, hh9⟩ := OwnTab.spine T2.out
          have gg9 := grown_own G2.out hh9 g9 (Nat.le_refl _)
          have O9 := Lib.hid o9
          have G9 := Lib.hid gg9
          clear gg9 hh9 vs9 o9 g9 T2 O2 G2 Y HB
          go_wp2
          go_roundw
          case rel => exact ⟨i + 1, by omega, by go_num, by rw [chunks_step]; exact O9, G9⟩
          case measure => simp [intOf]; omega
        · have hin' : i = c := by omega
          subst hin'
          have HR : Hid (OwnR w.heap.size wo.heap.size wo u5 (cutL xs)) := by
            rw [A.out, H.out, HC.out]
            exact OwnR.lower ho.out HG9.out.size
          go_wp2
          go_ret
          exact ⟨_, rfl, HR.out, grown_trans HG9.out hg.out⟩
end Go.Proofs.Ytkacopgfnkoifaa
