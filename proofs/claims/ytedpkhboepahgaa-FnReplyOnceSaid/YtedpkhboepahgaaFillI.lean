/- The filler of the program. -/
import Derived.Test.YtedpkhboepahgaaFill
import Derived.WalkKit
import Derived.Lib.Hide
import Derived.Deep.QuietTactic
import Derived.BigQuiet
import Derived.StillTailTactics
namespace Go.Proofs.Ytedpkhboepahgaa
open Go.RowKit
theorem zeros_list {n : Nat} (h : n ≤ 24) : ListP (List.replicate n 0) :=
  list_mem.2 ⟨by simpa using h, fun x hx => by have := List.eq_of_mem_replicate hx; omega⟩
theorem stream_getD (k : Int) (n : Nat) {j : Nat} (h : j < n) : (onL (List.replicate n 0) k).getD j 0 = strm k j := by
  rw [onL_getD (by simpa using h)]
  have := strm_range k j
  have e : (List.replicate n (0 : Int)).getD j 0 = 0 := by simp [List.getD_eq_getElem?_getD, h]
  rw [e]; omega
theorem streamOf_any (k : Int) (n : Nat) (w : World) (hk : 1 ≤ k ∧ k ≤ 996) (hn : n ≤ 24) :
    Calls Try.prog 98 #[.int .i64 k, .int .i64 n] w (IntsPost w (onL (List.replicate n 0) k)) := by
  obtain ⟨i0, hi0, hz0, hz1, hz2⟩ := info_parts info_int
  have EK := Lib.hid (elB_iff.2 hk)
  have EN := Lib.hid (show inB (n : Int) 0 24 = true from inB_iff.2 (by omega))
  go_enter Try.func98, Try.ntmps98
  go_wp2_with (first | (go_at_call 51; refine (isElement_any _ _).mono ?_; rintro e w' ⟨rfl, rfl⟩; rw [EK.out]) | (go_at_call 55; refine (within_any _ _ _ _).mono ?_; rintro e w' ⟨rfl, rfl⟩; rw [EN.out]) | (at_make; refine wpList_make_full w rfl _ _ 23 rfl w.heap.size 3 i0 (.int .i64 0) 1 Try.underlying23 hi0 hz0 hz1 .i64 .i64 n n n rfl rfl rfl rfl (by rw [hz2]; omega) (by unfold maxLen; omega) (Nat.le_refl _) ?_; intro w1 o1 g1; refine Hid.out ?_))
  show wpList _ _ _ _ _ _
  rw [made_ints] at o1
  have o2 : OwnI w.heap.size w1 (.slice (some ⟨w.heap.size, 0, none⟩) n n) (List.replicate n 0) := by
    unfold OwnI Own
    simpa using o1
  have I2 := Lib.hid (OwnI.ints o2).1
  have G1 := Lib.hid g1
  clear o1 o2 g1 hi0 hz0 hz1 hz2
  go_wp2_with fail
  refine (maskedOn_any _ _ _ _ _ k I2.out (zeros_list hn) hk).mono ?_
  rintro e w2 ⟨a2, c2, rfl, o2, g2⟩
  go_wp2
  go_ret
  exact ⟨a2, c2, rfl, Own.lower o2 G1.out.size, grown_trans G1.out g2⟩
/-- the first j numbers done -/
def halfZ (X : List Int) (k : Int) (m j : Nat) : List Int := (X.take j).mapIdx (fillF k m) ++ X.drop j
theorem halfZ_len (X : List Int) (k : Int) (m : Nat) {j : Nat} (hj : j ≤ X.length) : (halfZ X k m j).length = X.length := by
  simp [halfZ]; omega
theorem halfZ_zero (X : List Int) (k : Int) (m : Nat) : halfZ X k m 0 = X := rfl
theorem halfZ_get {X : List Int} {k : Int} {m j : Nat} (hj : j < X.length) : (halfZ X k m j).getD j 0 = X.getD j 0 := by
  unfold halfZ
  rw [List.getD_eq_getElem?_getD, List.getElem?_append_right (by simp; omega)]
  simp [List.getD_eq_getElem?_getD, Nat.min_eq_left (Nat.le_of_lt hj)]
theorem halfZ_set {X : List Int} {k : Int} {m j : Nat} (hj : j < X.length) : (halfZ X k m j).set j (fillF k m j (X.getD j 0)) = halfZ X k m (j + 1) := by
  unfold halfZ
  have hl : ((X.take j).mapIdx (fillF k m)).length = j := by simp; omega
  rw [List.set_append_right _ _ (by omega), hl, Nat.sub_self, idx_step hj, List.append_assoc]
  congr 1
  rw [List.drop_eq_getElem_cons hj]
  rfl
theorem halfZ_all {X : List Int} {k : Int} {m : Nat} : halfZ X k m X.length = X.mapIdx (fillF k m) := by simp [halfZ]
set_option maxRecDepth 4000 in
set_option maxHeartbeats 4000000 in
theorem fillerOf_any (w : World) (ao : Option Addr) (n cap : Nat) (xs : List Int) (h : IntsAt w ao n cap xs) (hp : PathP xs) :
    Calls Try.prog 95 #[.slice ao n cap] w (IntsPost w (fillL xs)) := by
  have hm := RowAt.max h
  have hnm := RowAt.le h
  have HN := Lib.hid h.len
  have HA := Lib.hid h
  have PP := Lib.hid hp
  have hn1 : 1 ≤ n ∧ n ≤ 3 := by have := hp.2; have := HN.out; omega
  obtain ⟨hn1, hn3⟩ := hn1
  obtain ⟨b, off, rfl, hb, hc⟩ := IntsAt.addr HA.out (by omega)
  have HC := Lib.hid hc
  obtain ⟨t, ht⟩ : ∃ t : Nat, n - 1 = t := ⟨_, rfl⟩
  have htz : (n : Int) - 1 = (t : Int) := by omega
  have ht0 : (t : Int) ≤ cap := by omega
  have HT := Lib.hid (show t + 1 = n by omega)
  have O0 := Lib.hid (own_nil w.heap.size w (Nat.le_refl _))
  have G0 := Lib.hid (grown_alloc w (.cells #[] 3) none)
  clear h hp hc ht
  go_enter Try.func95, Try.ntmps95
  go_wp2_with fail
  go_loopw [3, 5, 6, 7, 15] (fun v x y z i wr => ∃ m : Nat, m ≤ t ∧ i = .int .i64 m ∧ Hid (OwnI w.heap.size wr v (fillN xs m)) ∧ Hid (w.grownBy wr none)) (fun _ _ _ _ i _ => t - (intOf i).toNat)
  case atStart => exact ⟨0, by omega, rfl, O0, G0⟩
  case round =>
    clear O0 G0
    obtain ⟨m, hmt, rfl, ho, hg⟩ := hrel
    have FL := Lib.hid (fillN_len (ks := xs) (m := m) (by have := HN.out; omega))
    obtain ⟨F, hF⟩ : ∃ F, fillN xs m = F := ⟨_, rfl⟩
    rw [hF] at ho FL
    have HF := Lib.hid hF
    by_cases hlt : m < t
    · have ck0 := HC.out m (by omega)
      have kr := PP.out.1 m (by have := HN.out; omega)
      have NX := Lib.hid (fillN_step (ks := xs) (m := m) (by have := HN.out; omega))
      obtain ⟨k, hk⟩ : ∃ k, xs.getD m 0 = k := ⟨_, rfl⟩
      rw [hk] at ck0 kr NX
      rw [hF] at NX
      have ck := hg.out.cell ck0 (by simp)
      have KR := Lib.hid kr
      have m1 : m ≤ 1 := by omega
      clear hF hk kr ck0
      go_wp2_with (at_builtin; refine app_zeros rfl (.tmp 19) (.const (.int .i64 3)) 3 rfl ho.out rfl rfl (by omega) (by omega) hg.out.size (by rw [FL.out]; omega) ?_; intro v5 w5 o5 g5; refine Hid.out ?_)
      show wpList _ _ _ _ _ _
      have G5 := Lib.hid (grown_own hg.out ho.out g5 (Nat.le_refl _))
      have O5 := Lib.hid (own_eq o5 (show F ++ [0, 0, 0] = F ++ List.replicate 3 0 from rfl))
      clear o5 g5 ho hg ck
      obtain ⟨a5, c5, rfl, -, -⟩ := OwnI.shape O5.out
      have LX0 := Lib.hid (show ListP (F ++ [0, 0, 0]) from list_app (by rw [← HF.out]; exact fillN_list (by have := HN.out; omega) (by omega)) (list_mem.2 ⟨by simp, fun x hx => by simp at hx; omega⟩) (by rw [FL.out]; simp; omega))
      obtain ⟨X, hX⟩ : ∃ X, F ++ [0, 0, 0] = X := ⟨_, rfl⟩
      have L5 : X.length = 3 * m + 3 := by rw [← hX]; simp [FL.out]
      have NX2 := Lib.hid (show fillN xs (m + 1) = X.mapIdx (fillF k (3 * m)) by rw [NX.out, ← hX, ← FL.out]; rfl)
      rw [hX] at O5 LX0 ⊢
      have LX := Lib.hid L5
      rw [L5] at O5 ⊢
      clear hX L5 NX
      obtain ⟨g, e1, -, hgB, hgz, -⟩ := OwnI.at O5.out (by rw [LX.out]; omega)
      subst e1
      have HGB := Lib.hid hgB
      have HGZ := Lib.hid hgz
      clear hgB hgz
      go_wp2_with fail
      refine (streamOf_any k 12 _ KR.out (by omega)).mono ?_
      rintro e w6 ⟨a6, c6, rfl, o6, g6⟩
      have mlen : (onL (List.replicate 12 0) k).length = 12 := by rw [onL_len]; simp
      rw [mlen] at o6 ⊢
      obtain ⟨mb, e1, -, hmB, hmz, -⟩ := OwnI.at o6 (by rw [mlen]; omega)
      subst e1
      have O6 := Lib.hid (OwnI.grown O5.out g6)
      have G6 := Lib.hid (grown_trans G5.out g6)
      have M6 := Lib.hid (OwnI.ints o6).1
      have MC := RowAt.le M6.out
      have MNG := Lib.hid (show ¬ mb = g by have := HGZ.out; omega)
      clear o6 g6 O5 G5 hmB hmz mlen
      obtain ⟨f, hf⟩ : ∃ f : Nat, 9 - 3 * m = f := ⟨_, rfl⟩
      have HFM := Lib.hid (show f + 3 * m = 9 by omega)
      have hfz : (12 : Int) - (3 * (m : Int) + 3) = (f : Int) := by omega
      have f12 : (f : Int) ≤ 12 := by omega
      have fc : (f : Int) ≤ c6 := by omega
      have fne : ¬ c6 = f := by omega
      have ftn : 12 - f = 3 * m + 3 := by omega
      clear hf
      go_wp2_with fail
      have H0 := Lib.hid (own_eq O6.out (halfZ_zero X k (3 * m)))
      go_loopw [7, 32] (fun u i wr => ∃ j : Nat, j ≤ 3 * m + 3 ∧ i = .int .i64 j ∧ Hid (OwnI w.heap.size wr (.slice (some ⟨g, 0, none⟩) (3 * m + 3) c5) (halfZ X k (3 * m) j)) ∧ Hid (w6.grownBy wr (some g)) ∧ Hid (w.grownBy wr none)) (fun _ i _ => 3 * m + 3 - (intOf i).toNat)
      case atStart => exact ⟨0, by omega, rfl, H0, Lib.hid (grown_refl _ _), G6⟩
      case round =>
        clear H0 O6 G6
        obtain ⟨j, hj, rfl, ho, hgm, hg⟩ := hrel
        obtain ⟨wi, rfl⟩ : ∃ wi : World, wi = wr := ⟨_, rfl⟩
        by_cases hlt2 : j < 3 * m + 3
        · have hjX : j < X.length := by rw [LX.out]; exact hlt2
          obtain ⟨cz, fz, -, -⟩ := ints_at1 ho.out j (by rw [halfZ_len X k _ (by omega)]; exact hjX)
          rw [halfZ_get hjX] at cz
          have xr := LX0.out.2 j hjX
          have ST := halfZ_set (k := k) (m := 3 * m) hjX
          obtain ⟨x, hx⟩ : ∃ x, X.getD j 0 = x := ⟨_, rfl⟩
          rw [hx] at cz xr ST
          obtain ⟨mb', mo', e1, -, hmc⟩ := IntsAt.addr M6.out (by omega)
          simp only [Option.some.injEq, Addr.mk.injEq, and_true] at e1
          obtain ⟨rfl, rfl⟩ := e1
          have cs0 := hmc (f + j) (by have := HFM.out; omega)
          rw [stream_getD k 12 (by have := HFM.out; omega), Nat.zero_add] at cs0
          have cs := hgm.out.cell cs0 (by simp; exact MNG.out)
          obtain ⟨s0, s1⟩ := strm_range k (f + j)
          have SE := Lib.hid (show strm k (f + j) = strm k (9 - 3 * m + j) by rw [show f = 9 - 3 * m by have := HFM.out; omega])
          obtain ⟨s, hs⟩ : ∃ s, strm k (f + j) = s := ⟨_, rfl⟩
          rw [hs] at cs s0 s1 SE
          have YE : (x - s) % 991 = fillF k (3 * m) j x := by unfold fillF; rw [← SE.out]; omega
          rw [← YE] at ST
          obtain ⟨x0, x1⟩ := xr
          have hd : OwnI w.heap.size wi.drew (.slice (some ⟨g, 0, none⟩) (3 * m + 3) c5) (halfZ X k (3 * m) j) := OwnI.grown ho.out (gDrew (grown_refl _ _))
          have gd : w.grownBy wi.drew none := gDrew hg.out
          have gdm : w6.grownBy wi.drew (some g) := gDrew hgm.out
          obtain ⟨wd, hwd⟩ : ∃ wd, wi.drew = wd := ⟨_, rfl⟩
          rw [hwd] at hd gd gdm
          obtain ⟨cz2, fz2, -, hset2⟩ := ints_at1 hd j (by rw [halfZ_len X k _ (by omega)]; exact hjX)
          have no := hset2 ((x - s) % 991)
          rw [ST] at no
          have NO := Lib.hid no
          have NG : Hid (w.grownBy (wd.setCell ⟨g, j, none⟩ (.int .i64 ((x - s) % 991))) none) := Lib.hid (gSet gd HGB.out _)
          have NM : Hid (w6.grownBy (wd.setCell ⟨g, j, none⟩ (.int .i64 ((x - s) % 991))) (some g)) := Lib.hid (grown_trans gdm (grown_set wd g j _))
          have HD := Lib.hid hwd
          have i0 : (0 : Int) ≤ (j : Int) := by omega
          have i1 : (j : Int) < 3 * (m : Int) + 3 := by omega
          clear hx hs hmc cs0 ST YE hwd hset2 hd gd gdm no ho hg hgm fz
          go_wp2
          go_still_tail 14, (by kernel_rfl)
          change wpList _ _ _ _ _ wi.drew
          rw [HD.out]
          clear HD
          go_wp2
          go_roundw
          case rel => exact ⟨j + 1, by omega, by go_num, NO, NM, NG⟩
          case measure => simp [intOf]; omega
        · have hj3 : j = X.length := by rw [LX.out]; omega
          have E := Lib.hid (show fillN xs (m + 1) = halfZ X k (3 * m) j by rw [NX2.out, hj3, halfZ_all])
          have O3 := Lib.hid (own_eq ho.out E.out)
          have G3 := Lib.hid hg.out
          clear ho hg hgm hj3
          go_wp2
          go_roundw
          case rel => exact ⟨m + 1, by omega, by go_num, O3, G3⟩
          case measure => simp [intOf]; omega
    · have hmn1 : m = t := by omega
      have E := Lib.hid (show fillL xs = F by rw [← HF.out, hmn1]; unfold fillL; rw [HN.out, show n - 1 = t by have := HT.out; omega])
      have O3 := Lib.hid (own_eq ho.out E.out)
      have G3 := Lib.hid hg.out
      obtain ⟨a3, c3, rfl, -, -⟩ := OwnI.shape O3.out
      clear ho hg
      go_wp2
      go_ret
      exact ints_post O3.out G3.out
end Go.Proofs.Ytedpkhboepahgaa
