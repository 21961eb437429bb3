/- Copies, marks and sizes of tables of ints. -/
import Derived.Test.YtkacopgfnkoifaaTch
import Derived.Test.YtkacopgfnkoifaaSameT
import Derived.WalkKit
import Derived.Lib.Hide
import Derived.Deep.QuietTactic
import Derived.BigQuiet
import Derived.StillTailTactics
namespace Go.Proofs.Ytkacopgfnkoifaa
open Go.RowKit
theorem szIntS_any (w : World) (ao : Option Addr) (n cap : Nat) (left : Int) (hn : n ≤ 9223372036854775807) (h0 : 0 ≤ left) (h1 : left ≤ 1048576) :
    Calls Try.prog 50 #[.slice ao n cap, .int .i64 left] w fun e w' => ∃ r : Int, e = .returned (.int .i64 r) ∧ w = w' ∧ (r = -1 ∨ (r = left - n ∧ (n : Int) ≤ left)) := by
  by_cases h : left - (n : Int) < 0
  · go_enter Try.func50, Try.ntmps50
    go_wp2
    go_ret
    exact ⟨_, rfl, rfl, .inl rfl⟩
  · go_enter Try.func50, Try.ntmps50
    go_wp2
    go_ret
    exact ⟨_, rfl, rfl, .inr ⟨rfl, by omega⟩⟩
def SzPost (w : World) (n : Nat) (rows : List (List Int)) (e : Ending) (w' : World) : Prop :=
  ∃ r : Int, e = .returned (.int .i64 r) ∧ w = w' ∧ (r = -1 ∨ (0 ≤ r ∧ r ≤ 1048576 ∧ n ≤ 1048576 ∧ TotP n rows))
set_option maxHeartbeats 1000000 in
theorem szIntSS_any (w : World) (ao : Option Addr) (n cap : Nat) (rows : List (List Int)) (h : RowsAt w ao n cap rows) :
    Calls Try.prog 30 #[.slice ao n cap, .int .i64 1048576] w (SzPost w n rows) := by
  have hm := TabAt.le h
  by_cases h0 : (1048576 : Int) - (n : Int) < 0
  · go_enter Try.func30, Try.ntmps30
    go_wp2
    go_ret
    exact ⟨_, rfl, rfl, .inl rfl⟩
  · have b0 : ((1048576 : Int) - n = 1048576 - n - offR rows 0) ∧ ∀ j, j ≤ 0 → offR rows j ≤ 1048576 := by
      refine ⟨by simp [offR], fun j hj => ?_⟩
      obtain rfl : j = 0 := by omega
      simp [offR]
    have B0 := Lib.hid b0
    clear b0
    go_enter Try.func30, Try.ntmps30
    go_wp2
    go_loopw [1, 5] (fun l q wr => ∃ (i : Nat) (L : Int), i ≤ n ∧ q = .int .i64 i ∧ l = .int .i64 L ∧ 0 ≤ L ∧ L ≤ 1048576 ∧ wr = w ∧ Hid (L = 1048576 - n - offR rows i ∧ ∀ j, j ≤ i → offR rows j ≤ 1048576)) (fun _ q _ => n - (intOf q).toNat)
    case atStart => exact ⟨0, 1048576 - n, by omega, rfl, rfl, by omega, by omega, rfl, B0⟩
    case round =>
      clear B0
      obtain ⟨i, L, hi, rfl, rfl, l0, l1, rfl, hb⟩ := hrel
      by_cases hin : i < n
      · obtain ⟨b, off, ro, rc, rfl, cc, hr⟩ := h.at i hin
        have mx := RowAt.max hr
        have ml := RowAt.le hr
        obtain ⟨row, hrow⟩ : ∃ row, rows.getD i [] = row := ⟨_, rfl⟩
        obtain ⟨k, hk⟩ : ∃ k, row.length = k := ⟨_, rfl⟩
        rw [hrow, hk] at cc ml
        have HK := Lib.hid (show (rows.getD i []).length = k by rw [hrow, hk])
        clear hr hrow hk
        have mx' : k ≤ 9223372036854775807 := by omega
        clear mx
        go_wp2_with fail
        refine (szIntS_any _ _ _ _ _ mx' l0 l1).mono ?_
        rintro e w1 ⟨r, rfl, rfl, hr | ⟨hr, hr2⟩⟩
        · subst hr
          go_wp2
          go_ret
          exact ⟨_, rfl, rfl, .inl rfl⟩
        · have r0 : ¬ r < 0 := by omega
          have r1 : r ≤ 1048576 := by omega
          have HB : Hid (r = 1048576 - n - offR rows (i + 1) ∧ ∀ j, j ≤ i + 1 → offR rows j ≤ 1048576) := by
            have h1 := hb.out.1
            have h2 := HK.out
            refine ⟨by rw [offR, h2]; omega, fun j hj => ?_⟩
            by_cases e : j = i + 1
            · subst e; rw [offR, h2]; omega
            · exact hb.out.2 j (by omega)
          clear hr hr2 mx' ml hb HK
          go_wp2
          go_roundw
          case rel => exact ⟨i + 1, r, by omega, by go_num, rfl, by omega, r1, trivial, HB⟩
          case measure => simp [intOf]; omega
      · have hin' : i = n := by omega
        subst hin'
        go_wp2
        go_ret
        exact ⟨_, rfl, rfl, .inr ⟨l0, l1, by omega, hb.out.2⟩⟩
theorem bcopy_step {α : Type} (d : α) (xs : List α) (n k : Nat) (hk : k < n) (hn : xs.length = n) : (xs.take k ++ List.replicate (n - k) d).set k (xs.getD k d) = xs.take (k + 1) ++ List.replicate (n - (k + 1)) d := by
  have hl : (xs.take k).length = k := by simp; omega
  rw [List.set_append_right _ _ (by omega), hl, Nat.sub_self, List.take_succ_eq_append_getElem (by omega), show n - k = (n - (k + 1)) + 1 by omega, List.replicate_succ, List.set_cons_zero, List.append_assoc]
  simp [List.getD_eq_getElem?_getD, List.getElem?_eq_getElem (l := xs) (i := k) (by omega)]
theorem bcopy_end {α : Type} (d : α) (xs : List α) (n : Nat) (hn : xs.length = n) : xs.take n ++ List.replicate (n - n) d = xs := by
  rw [Nat.sub_self, List.take_of_length_le (by omega)]; simp
theorem nil_rows (B : Nat) (w : World) (v : Value) (n : Nat) (h : Own 22 B w v (List.replicate n (.slice none 0 0))) : OwnR B w.heap.size w v (List.replicate n []) := by
  refine ⟨_, h, fun k hk => (h.bound k hk).2, by simp, fun i r hi => ?_, fun i j u u' _ hu _ => ?_⟩
  · have hr := (List.getElem?_eq_some_iff.1 hi)
    obtain ⟨hl, hr⟩ := hr
    simp only [List.getElem_replicate] at hr
    subst hr
    simp only [List.length_replicate] at hl
    exact ⟨.slice none 0 0, by simp [hl], ⟨rfl, .inl ⟨rfl, rfl⟩⟩, fun k hk => by simp [Value.ownBlock] at hk⟩
  · have hr := (List.getElem?_eq_some_iff.1 hu)
    obtain ⟨hl, hr⟩ := hr
    simp only [List.getElem_replicate] at hr
    subst hr
    exact .inl rfl
theorem made_rows (n : Nat) : (madeCells (Value.slice none 0 0).cells (n * 1)).toList = List.replicate n (Value.slice none 0 0) := by
  rw [Nat.mul_one]
  exact toList_madeCells_one (.slice none 0 0) n
set_option maxHeartbeats 1000000 in
theorem toIntSS_any (w : World) (ao : Option Addr) (n cap : Nat) (rows : List (List Int)) (h : RowsAt w ao n cap rows) (hn : n ≤ 1048576) (hr : TotP n rows) :
    Calls Try.prog 32 #[.slice ao n cap] w fun e w' => ∃ a1 c1, e = .returned (.slice a1 n c1) ∧ OwnR w.heap.size w'.heap.size w' (.slice a1 n c1) rows ∧ w.grownBy w' none := by
  obtain ⟨i0, hi, hz0, hz1, hz2⟩ := info_parts info_introw
  have H := Lib.hid h.len
  have HR := Lib.hid hr
  clear hr
  go_enter Try.func32, Try.ntmps32
  go_wp2_with (at_make; refine wpList_make_full w rfl _ _ 23 rfl w.heap.size 22 i0 (.slice none 0 0) 1 Try.underlying23 hi hz0 hz1 .i64 .i64 n n n rfl rfl rfl rfl (by rw [hz2]; omega) (by unfold maxLen; omega) (Nat.le_refl _) ?_; intro w1 o1 g1)
  rw [made_rows] at o1
  have o2 : OwnR w.heap.size w1.heap.size w1 (.slice (some ⟨w.heap.size, 0, none⟩) n n) (rows.take 0 ++ List.replicate (n - 0) []) := by
    rw [List.take_zero, List.nil_append, Nat.sub_zero]
    refine nil_rows _ _ _ _ ?_
    unfold Own
    simpa using o1
  have O2 := Lib.hid o2
  have G1 := Lib.hid g1
  clear o1 o2 g1 hi hz0 hz1 hz2
  go_loopw [4] (fun i wr => ∃ k : Nat, k ≤ n ∧ i = .int .i64 k ∧ Hid (w.grownBy wr none) ∧ Hid (OwnR w.heap.size wr.heap.size wr (.slice (some ⟨w.heap.size, 0, none⟩) n n) (rows.take k ++ List.replicate (n - k) []))) (fun i _ => n - (intOf i).toNat)
  case atStart => exact ⟨0, Nat.zero_le _, rfl, G1, O2⟩
  case round =>
    clear O2 G1
    obtain ⟨k, hk, rfl, hg, ho⟩ := hrel
    by_cases hlt : k < n
    · have hlen : (rows.take k ++ List.replicate (n - k) []).length = n := by have := H.out; simp; omega
      have zo := hg.out.size
      obtain ⟨b, off, ro, rc, rfl, cc, hrow⟩ := (h.grown hg.out).at k hlt
      have HL := Lib.hid (TotP.row HR.out k hlt)
      obtain ⟨row, hz⟩ : ∃ z, rows.getD k [] = z := ⟨_, rfl⟩
      obtain ⟨l, hll⟩ : ∃ l, row.length = l := ⟨_, rfl⟩
      rw [hz, hll] at cc hrow HL
      have step := bcopy_step [] rows n k hlt H.out
      rw [hz] at step
      have HS := Lib.hid step
      have HLEN := Lib.hid hlen
      clear hz hll step hlen
      go_wp2_with fail
      refine (toIntS_any _ _ _ _ _ hrow (by have := HL.out; omega)).mono ?_
      rintro e w2 ⟨a2, c2, rfl, o2, g2⟩
      obtain ⟨v, hv⟩ : ∃ v, Value.slice a2 row.length c2 = v := ⟨_, rfl⟩
      rw [hv] at o2 ⊢
      clear hv
      obtain ⟨g, e1, hBg, ⟨v0, c2⟩, f2, hst⟩ := OwnTab.setRow (OwnTab.grown ho.out g2) (by decide) zo k (by rw [HLEN.out]; exact hlt) o2
      simp only [Option.some.injEq, Addr.mk.injEq, and_true] at e1
      subst e1
      rw [HS.out] at hst
      have Gst := Lib.hid (gSet (grown_trans hg.out g2) (p := ⟨w.heap.size, k, none⟩) (Nat.le_refl _) v)
      have Hst := Lib.hid (OwnTab.now hst)
      obtain ⟨vo, vc, rfl, _⟩ := OwnI.shape o2
      clear hst o2 g2 hg ho cc hrow HLEN HS HL zo hBg
      go_wp2
      go_roundw
      case rel => exact ⟨k + 1, by omega, by go_num, Gst, Hst⟩
      case measure => simp [intOf]; omega
    · have hkn : k = n := by omega
      have o3 := ho.out
      rw [hkn, bcopy_end [] rows n H.out] at o3
      have O3 := Lib.hid o3
      clear hkn o3
      go_wp2
      go_ret
      exact ⟨_, _, rfl, O3.out, hg.out⟩
/-- marks in all cells of an owned table -/
def MarkRPost (B M : Nat) (w : World) (ao : Option Addr) (n cap : Nat) (k0 : Int) (rows : List (List Int)) (e : Ending) (w' : World) : Prop :=
  ∃ ys, e = .returned (.int .i64 (k0 + offR rows n)) ∧ MarkedR k0 rows ys ∧ OwnR B M w' (.slice ao n cap) ys ∧ Tch B M w w'
set_option maxHeartbeats 1000000 in
theorem markIntSS_any (B M : Nat) (w : World) (ao : Option Addr) (n cap : Nat) (rows : List (List Int)) (k0 : Int) (h : OwnR B M w (.slice ao n cap) rows) (hl : rows.length = n) (hn : n ≤ 1048576) (ht : TotP n rows) (h0 : 0 ≤ k0) (h1 : k0 ≤ 1000000000) :
    Calls Try.prog 24 #[.slice ao n cap, .int .i64 k0] w (MarkRPost B M w ao n cap k0 rows) := by
  have H := Lib.hid hl
  have HT := Lib.hid ht
  have Hs : Hid (OwnR B M w (.slice ao n cap) rows ∧ rows.length = n ∧ (∀ j, j < 0 → rows.getD j [] = markL (k0 + offR rows j) (rows.getD j []).length) ∧ ∀ j, j < n → (rows.getD j []).length = (rows.getD j []).length) := Lib.hid ⟨h, hl, fun j hj => by omega, fun _ _ => rfl⟩
  clear h hl ht
  go_enter Try.func24, Try.ntmps24
  go_wp2
  go_loopw [1, 5] (fun q i wr => ∃ (k K : Nat) (ys : List (List Int)), k ≤ n ∧ K ≤ 1048576 ∧ i = .int .i64 k ∧ q = .int .i64 (k0 + K) ∧ Hid (K = offR rows k) ∧ Hid (Tch B M w wr) ∧ Hid (OwnR B M wr (.slice ao n cap) ys ∧ ys.length = n ∧ (∀ j, j < k → ys.getD j [] = markL (k0 + offR rows j) (rows.getD j []).length) ∧ ∀ j, j < n → (ys.getD j []).length = (rows.getD j []).length)) (fun _ i _ => n - (intOf i).toNat)
  case atStart => exact ⟨0, 0, rows, Nat.zero_le _, by omega, rfl, by simp, Lib.hid rfl, Lib.hid (Tch.refl _ _ _), Lib.hid ⟨Hs.out.1, Hs.out.2.1, Hs.out.2.2.1, fun _ _ => rfl⟩⟩
  case round =>
    clear Hs
    obtain ⟨k, K, ys, hk, hK, rfl, rfl, hK2, hg, ho⟩ := hrel
    by_cases hlt : k < n
    · obtain ⟨o1, o2, o3, o4⟩ := ho.out
      obtain ⟨g, ro, rc, rfl, cc, orow, obl, oback⟩ := OwnTab.rowOut o1 (by decide) k (by omega)
      have hlr := o4 k hlt
      have hl1 := HT.out (k + 1) (by omega)
      rw [offR] at hl1
      obtain ⟨l, hll⟩ : ∃ l, (ys.getD k []).length = l := ⟨_, rfl⟩
      rw [hll] at cc orow obl oback hlr
      have HL := Lib.hid hlr.symm
      have hl2 : K + l ≤ 1048576 := by have := HL.out; have := hK2.out; omega
      have OB := Lib.hid oback
      have OR := Lib.hid orow
      have OL := Lib.hid obl
      have O1 := Lib.hid o1
      have O2 := Lib.hid o2
      have O3 := Lib.hid o3
      have O4 := Lib.hid o4
      have HLL := Lib.hid hll
      clear ho o1 o2 o3 o4 orow obl oback hlr hl1 hll
      go_wp2_with fail
      refine (markIntS_any B _ _ _ _ _ _ OR.out HLL.out (by omega) (by omega) (by omega)).mono ?_
      rintro e w2 ⟨rfl, g2, om⟩
      have NB := Lib.hid (OB.out w2 _ g2 om)
      have G2 := Lib.hid (hg.out.trans (Tch.of_grown g2 OL.out))
      have e9 : k0 + (K : Int) + (l : Int) = k0 + ((K + l : Nat) : Int) := by omega
      rw [e9]
      have NK : Hid (K + l = offR rows (k + 1)) := by have := HL.out; have := hK2.out; show _ = _; rw [offR]; omega
      have NP : Hid (OwnR B M w2 (.slice (some ⟨g, 0, none⟩) n cap) (ys.set k (markL (k0 + K) l)) ∧ (ys.set k (markL (k0 + K) l)).length = n ∧ (∀ j, j < k + 1 → (ys.set k (markL (k0 + K) l)).getD j [] = markL (k0 + offR rows j) (rows.getD j []).length) ∧ ∀ j, j < n → ((ys.set k (markL (k0 + K) l)).getD j []).length = (rows.getD j []).length) := by
        refine ⟨NB.out, by simp [O2.out], fun j hj => ?_, fun j hj => ?_⟩
        · by_cases e : j = k
          · subst e
            rw [List.getD_eq_getElem?_getD, List.getElem?_set_self (by rw [O2.out]; exact hlt), HL.out, ← hK2.out]; rfl
          · rw [List.getD_eq_getElem?_getD, List.getElem?_set_ne (Ne.symm e), ← List.getD_eq_getElem?_getD]
            exact O3.out j (by omega)
        · by_cases e : j = k
          · subst e
            rw [List.getD_eq_getElem?_getD, List.getElem?_set_self (by rw [O2.out]; exact hlt), HL.out]; simp [markL_length]
          · rw [List.getD_eq_getElem?_getD, List.getElem?_set_ne (Ne.symm e), ← List.getD_eq_getElem?_getD]
            exact O4.out j hj
      clear e9 g2 om OB OR OL O1 O2 O3 O4 HLL NB HL hg hK2
      go_wp2
      go_roundw
      case rel => exact ⟨k + 1, K + l, _, by omega, hl2, by go_num, by go_num, NK, G2, NP⟩
      case measure => simp [intOf]; omega
    · have hkn : k = n := by omega
      subst hkn
      go_wp2
      go_ret
      exact ⟨ys, by rw [hK2.out]; rfl, ⟨by rw [ho.out.2.1, H.out], fun i hi => ho.out.2.2.1 i (by rw [← H.out]; exact hi)⟩, ho.out.1, hg.out⟩
set_option maxHeartbeats 1000000 in
theorem heldIntSS_any (w : World) (ao : Option Addr) (n cap : Nat) (rows ys : List (List Int)) (k0 : Int) (h : RowsAt w ao n cap ys) (hm : MarkedR k0 rows ys) (hn : n ≤ 1048576) (ht : TotP n rows) (h0 : 0 ≤ k0) (h1 : k0 ≤ 1000000000) :
    Calls Try.prog 25 #[.slice ao n cap, .int .i64 k0] w fun e w' => e = .returned (.int .i64 (k0 + offR rows n)) ∧ w = w' := by
  have HT := Lib.hid ht
  have HM := Lib.hid hm
  have H := Lib.hid h.len
  clear ht hm
  go_enter Try.func25, Try.ntmps25
  go_wp2
  go_loop [1, 5] (fun q i => ∃ k K : Nat, k ≤ n ∧ K ≤ 1048576 ∧ i = .int .i64 k ∧ q = .int .i64 (k0 + K) ∧ Hid (K = offR rows k)) (fun _ i => n - (intOf i).toNat)
  case atStart => exact ⟨0, 0, Nat.zero_le _, by omega, rfl, by simp, Lib.hid rfl⟩
  case round =>
    obtain ⟨k, K, hk, hK, rfl, rfl, hK2⟩ := hrel
    by_cases hlt : k < n
    · obtain ⟨b, off, ro, rc, rfl, cc, hrow⟩ := h.at k hlt
      have e1 := HM.out.2 k (by rw [← HM.out.1, H.out]; exact hlt)
      have hl1 := HT.out (k + 1) (by omega)
      rw [offR] at hl1
      rw [e1, ← hK2.out] at hrow
      rw [e1] at cc
      rw [markL_length] at cc hrow
      obtain ⟨l, hll⟩ : ∃ l, (rows.getD k []).length = l := ⟨_, rfl⟩
      rw [hll] at cc hrow hl1
      have hl2 : K + l ≤ 1048576 := by have := hK2.out; omega
      have NK : Hid (K + l = offR rows (k + 1)) := by have := hK2.out; show _ = _; rw [offR, hll]; omega
      have HROW := Lib.hid hrow
      clear e1 hll hl1 hrow
      have pos : ¬ k0 + (K : Int) + (l : Int) < 0 := by omega
      go_wp2_with fail
      refine (heldIntS_any _ _ _ _ _ HROW.out (by omega) (by omega) (by omega)).mono ?_
      rintro e w2 ⟨rfl, rfl⟩
      go_wp2
      go_round
      case rel => exact ⟨k + 1, K + l, by omega, hl2, by go_num, by go_num, NK⟩
      case measure => simp [intOf]; omega
    · have hkn : k = n := by omega
      subst hkn
      go_wp2
      go_ret
      exact ⟨by rw [hK2.out]; rfl, rfl⟩
end Go.Proofs.Ytkacopgfnkoifaa
