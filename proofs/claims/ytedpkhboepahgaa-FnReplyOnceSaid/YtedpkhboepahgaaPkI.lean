/- Packets of the program. -/
import Derived.Test.YtedpkhboepahgaaPkS
import Derived.Test.YtedpkhboepahgaaHdrI
import Derived.WalkKit
import Derived.Lib.Hide
import Derived.Deep.QuietTactic
import Derived.BigQuiet
import Derived.OwnWalk
import Derived.Deep.RegionHeld3
namespace Go.Proofs.Ytedpkhboepahgaa
open Go.RowKit
theorem cell_dr {w : World} {p : Addr} {v : Value} (h : w.cell? p = some v) : w.drew.cell? p = some v := h
set_option maxRecDepth 8000 in
set_option maxHeartbeats 1500000 in
theorem packetMake_any (s : Int) (w : World) (ao : Option Addr) (n cap : Nat) (xs : List Int) (bo : Option Addr) (n' cap' : Nat) (ys : List Int) (r : Int) (co : Option Addr) (m mc : Nat) (zs : List Int) (h : IntsAt w ao n cap xs) (h' : IntsAt w bo n' cap' ys) (h'' : IntsAt w co m mc zs) :
    Calls Try.prog 41 #[.int .i64 s, .slice ao n cap, .slice bo n' cap', .int .i64 r, .slice co m mc] w (PkPost w (mkR s xs ys r zs) (pb (MkP s xs ys r zs))) := by
  have G0 := Lib.hid (grown_alloc w pk0 none)
  have D0 := Lib.hid (show (w.alloc pk0).heap[w.heap.size]? = some pk0 from heap_alloc_new w _)
  have HX := Lib.hid h.len
  have HY := Lib.hid h'.len
  have A0 := Lib.hid (h.grown G0.out)
  have N0 := Lib.hid (h'.grown G0.out)
  have Z0 := Lib.hid (h''.grown G0.out)
  have WS := Lib.hid (show (w.alloc pk0).heap.size = w.heap.size + 1 by simp)
  clear h h' h''
  go_enter Try.func41, Try.ntmps41
  go_wp2_with fail
  refine (pathKeys_any s _ _ _ _ xs A0.out).mono ?_
  rintro e w1 ⟨a1, c1, rfl, o1, g1⟩
  have O1 := Lib.hid o1
  have G1 := Lib.hid g1
  have Z1 := Lib.hid (Z0.out.grown g1)
  have N1 := Lib.hid (N0.out.grown g1)
  clear o1 g1
  go_wp2_with fail
  refine (letterPack_any _ _ _ _ zs Z1.out).mono ?_
  rintro e w2 ⟨a2, c2, rfl, o2, g2⟩
  have N2 := Lib.hid (N1.out.grown g2)
  have K2 := Lib.hid (OwnI.grown O1.out g2)
  have G2 := Lib.hid (grown_trans G1.out g2)
  have O2 := Lib.hid (Own.lower o2 G1.out.size)
  have D2 := Lib.hid (blkK G2.out D0.out (by simp))
  have d0 := blkC D2.out 0 rfl
  have d1 := blkC D2.out 1 rfl
  have d2 := blkC D2.out 2 rfl
  have d3 := blkC D2.out 3 rfl
  have f0 := blkF D2.out 0
  have f1 := blkF D2.out 1
  have f2 := blkF D2.out 2
  have f3 := blkF D2.out 3
  have gs := grown_trans (grown_trans (grown_trans (grown_set w2 w.heap.size 0 (.int .i64 0)) (grown_set _ w.heap.size 1 (.slice none 0 0))) (grown_set _ w.heap.size 2 (.int .i64 0))) (grown_set _ w.heap.size 3 (.slice none 0 0))
  have GZ := Lib.hid (grown_new (grown_trans G0.out G2.out) gs (Nat.le_refl _))
  clear o2 g2 gs O1 N1 Z1 Z0 N0
  cases h1 : pb (KeyMP s xs)
  case false =>
    have NK : ¬ MkP s xs ys r zs := fun e => (pb_not.1 h1) e.2.1
    have A := Lib.hid (mkR_no NK)
    have B := Lib.hid (pb_false NK)
    clear NK
    go_wp2_with (first | (go_at_call 80; refine (areNames_any _ _ _ _ _ N2.out).mono ?_; rintro e w' ⟨rfl, rfl⟩; rw [K4.out]) | (go_at_call 50; refine (isName_any _ _).mono ?_; rintro e w' ⟨rfl, rfl⟩; rw [K5.out]))
    refine bodyPost_ret (v := .tuple #[.agg #[.int .i64 0, .slice none 0 0, .int .i64 0, .slice none 0 0], .bool false]) ?_ rfl (pk_no A.out B.out GZ.out)
    (simp only [results, Try.results41]; go_simp)
  cases h2 : pb (PackP zs)
  case false =>
    have NK : ¬ MkP s xs ys r zs := fun e => (pb_not.1 h2) e.1
    have A := Lib.hid (mkR_no NK)
    have B := Lib.hid (pb_false NK)
    clear NK
    go_wp2_with (first | (go_at_call 80; refine (areNames_any _ _ _ _ _ N2.out).mono ?_; rintro e w' ⟨rfl, rfl⟩; rw [K4.out]) | (go_at_call 50; refine (isName_any _ _).mono ?_; rintro e w' ⟨rfl, rfl⟩; rw [K5.out]))
    refine bodyPost_ret (v := .tuple #[.agg #[.int .i64 0, .slice none 0 0, .int .i64 0, .slice none 0 0], .bool false]) ?_ rfl (pk_no A.out B.out GZ.out)
    (simp only [results, Try.results41]; go_simp)
  by_cases h4 : n' = n
  case neg =>
    have nn : ((n' : Int) != n) = true := by simp; omega
    have NK : ¬ MkP s xs ys r zs := fun e => h4 (by have := e.2.2.1; have := HX.out; have := HY.out; omega)
    have A := Lib.hid (mkR_no NK)
    have B := Lib.hid (pb_false NK)
    clear NK
    go_wp2_with (first | (go_at_call 80; refine (areNames_any _ _ _ _ _ N2.out).mono ?_; rintro e w' ⟨rfl, rfl⟩; rw [K4.out]) | (go_at_call 50; refine (isName_any _ _).mono ?_; rintro e w' ⟨rfl, rfl⟩; rw [K5.out]))
    refine bodyPost_ret (v := .tuple #[.agg #[.int .i64 0, .slice none 0 0, .int .i64 0, .slice none 0 0], .bool false]) ?_ rfl (pk_no A.out B.out GZ.out)
    (simp only [results, Try.results41]; go_simp)
  subst h4
  cases h5 : pb (NamesP ys)
  case false =>
    have K4 := Lib.hid h5
    have NK : ¬ MkP s xs ys r zs := fun e => (pb_not.1 h5) e.2.2.2.1
    have A := Lib.hid (mkR_no NK)
    have B := Lib.hid (pb_false NK)
    clear NK
    go_wp2_with (first | (go_at_call 80; refine (areNames_any _ _ _ _ _ N2.out).mono ?_; rintro e w' ⟨rfl, rfl⟩; rw [K4.out]) | (go_at_call 50; refine (isName_any _ _).mono ?_; rintro e w' ⟨rfl, rfl⟩; rw [K5.out]))
    refine bodyPost_ret (v := .tuple #[.agg #[.int .i64 0, .slice none 0 0, .int .i64 0, .slice none 0 0], .bool false]) ?_ rfl (pk_no A.out B.out GZ.out)
    (simp only [results, Try.results41]; go_simp)
  have K4 := Lib.hid h5
  cases h6 : nmB r
  case false =>
    have K5 := Lib.hid h6
    have NK : ¬ MkP s xs ys r zs := fun e => by rw [nmB_iff.2 e.2.2.2.2] at h6; cases h6
    have A := Lib.hid (mkR_no NK)
    have B := Lib.hid (pb_false NK)
    clear NK
    go_wp2_with (first | (go_at_call 80; refine (areNames_any _ _ _ _ _ N2.out).mono ?_; rintro e w' ⟨rfl, rfl⟩; rw [K4.out]) | (go_at_call 50; refine (isName_any _ _).mono ?_; rintro e w' ⟨rfl, rfl⟩; rw [K5.out]))
    refine bodyPost_ret (v := .tuple #[.agg #[.int .i64 0, .slice none 0 0, .int .i64 0, .slice none 0 0], .bool false]) ?_ rfl (pk_no A.out B.out GZ.out)
    (simp only [results, Try.results41]; go_simp)
  have K5 := Lib.hid h6
  have hM : MkP s xs ys r zs := ⟨pb_iff.1 h2, pb_iff.1 h1, by have := HX.out; have := HY.out; omega, pb_iff.1 h5, nmB_iff.1 h6⟩
  have M := Lib.hid hM
  have A := Lib.hid (mkR_yes hM)
  have B := Lib.hid (pb_true hM)
  rw [packR_yes hM.1] at O2 ⊢
  rw [packL_len hM.1.2] at O2 ⊢
  rw [keysR_yes hM.2.1] at K2 ⊢
  clear h1 h2 h5 h6 hM GZ d0 d1 d2 d3 f0 f1 f2 f3
  have KX := Lib.hid (mkP_ok M.out)
  have hx3 : n' ≤ 3 := by have := M.out.2.1.2.2; have := HX.out; omega
  have hx1 : 1 ≤ n' := by have := M.out.2.1.2.2; have := HX.out; omega
  obtain ⟨K, hK⟩ : ∃ K, keysL s xs = K := ⟨_, rfl⟩
  have HK := Lib.hid hK
  rw [hK] at K2 KX ⊢
  have KL := Lib.hid (show K.length = n' by rw [← hK, keysL_len]; exact HX.out)
  rw [KL.out] at K2 ⊢
  have KI := Lib.hid (OwnI.ints K2.out).1
  have KOW := Lib.hid (fun a e => ((OwnI.ints K2.out).2.2 a e).1)
  have PL := Lib.hid (packL_list M.out.1)
  have L6 := Lib.hid (packL_len M.out.1.2)
  have km := RowAt.max KI.out
  have kl := RowAt.le KI.out
  clear hK K2 A0
  go_wp2_with (first | (go_at_call 80; refine (areNames_any _ _ _ _ _ N2.out).mono ?_; rintro e w' ⟨rfl, rfl⟩; rw [K4.out]) | (go_at_call 50; refine (isName_any _ _).mono ?_; rintro e w' ⟨rfl, rfl⟩; rw [K5.out]))
  go_loopw [14, 17, 56] (fun v u i wr => ∃ j : Nat, ∃ a c, j ≤ n' ∧ i = .int .i64 j ∧ v = .slice a 6 c ∧ Hid (OwnI (w.alloc pk0).heap.size wr v (onAll (packL zs) (K.take j))) ∧ Hid (w2.grownBy wr none)) (fun _ _ i _ => n' - (intOf i).toNat)
  case atStart => exact ⟨0, _, _, by omega, rfl, rfl, O2, Lib.hid (grown_refl _ _)⟩
  case round =>
    clear O2
    obtain ⟨j, a, c, hj, rfl, rfl, ho, hg⟩ := hrel
    have LP := Lib.hid (onAll_list PL.out (K.take j))
    obtain ⟨kb, koff, rfl, hkb, hc⟩ := IntsAt.addr (KI.out.grown hg.out) (by omega)
    have KBB := Lib.hid (show w.heap.size + 1 ≤ kb by have := KOW.out _ rfl; rw [WS.out] at this; exact this)
    by_cases hlt : j < n'
    · have ck := hc j hlt
      have kr := KX.out.1.1 j (by have := KL.out; omega)
      have NX := Lib.hid (onAll_step (xs := packL zs) (ks := K) (j := j) (by have := KL.out; omega))
      obtain ⟨k, hk⟩ : ∃ k, K.getD j 0 = k := ⟨_, rfl⟩
      rw [hk] at ck kr NX
      have KR := Lib.hid kr
      clear hc hk kr
      go_wp2_with fail
      refine (maskOn_any _ _ _ _ (onAll (packL zs) (K.take j)) k (OwnI.ints ho.out).1 LP.out KR.out).mono ?_
      rintro e w5 ⟨a5, c5, rfl, o5, g5⟩
      rw [onL_len, onAll_len, L6.out] at o5 ⊢
      rw [← NX.out] at o5
      have O5 := Lib.hid (Own.lower o5 (grown_trans G2.out hg.out).size)
      have G5 := Lib.hid (grown_trans hg.out g5)
      clear o5 g5 ho hg
      go_wp2
      go_roundw
      case rel => exact ⟨j + 1, a5, c5, by omega, by go_num, rfl, O5, G5⟩
      case measure => simp [intOf]; omega
    · have E := Lib.hid (show onAll (packL zs) (K.take j) = onAll (packL zs) K by rw [List.take_of_length_le (by have := KL.out; omega)])
      rw [E.out] at ho
      have BO := Lib.hid ho.out
      have K3 := Lib.hid (KI.out.grown hg.out)
      have N3 := Lib.hid (N2.out.grown hg.out)
      have G3 := Lib.hid (grown_trans G2.out hg.out)
      have k0 := hc 0 (by omega)
      rw [Nat.add_zero] at k0
      have K0 := Lib.hid k0
      clear ho hg E LP hc k0
      go_wp2_with fail
      refine (headerOf_any _ _ _ _ K _ _ _ ys r K3.out N3.out KX.out.1 M.out.2.2.2.1 KX.out.2 M.out.2.2.2.2).mono ?_
      rintro e w6 ⟨a6, c6, rfl, o6, g6⟩
      have HL9 := Lib.hid (hdrL_ok KX.out.1 M.out.2.2.2.1 KX.out.2 M.out.2.2.2.2)
      rw [HL9.out.2] at o6 ⊢
      have G6 := Lib.hid (grown_trans G3.out g6)
      have H6 := Lib.hid (Own.lower o6 G3.out.size)
      have B6 := Lib.hid (OwnI.grown BO.out g6)
      have D6 := Lib.hid (blkK (grown_trans G3.out g6) D0.out (by simp))
      have d0 := blkC D6.out 0 rfl
      have d1 := blkC D6.out 1 rfl
      have d2 := blkC D6.out 2 rfl
      have d3 := blkC D6.out 3 rfl
      have f0 := blkF D6.out 0
      have f1 := blkF D6.out 1
      have f2 := blkF D6.out 2
      have f3 := blkF D6.out 3
      have kr := KX.out.1.1 0 (by have := KL.out; omega)
      have y9 : w6.cell? ⟨kb, koff, none⟩ = some (.int .i64 (K.getD 0 0)) := g6.cell K0.out (by simp)
      obtain ⟨T, hT⟩ : ∃ T, tagL (K.getD 0 0) (hdrL K ys r) = T := ⟨_, rfl⟩
      have HT := Lib.hid hT
      have HT2 := Lib.hid hT
      obtain ⟨k, hk⟩ : ∃ k, K.getD 0 0 = k := ⟨_, rfl⟩
      rw [hk] at kr y9 HT2
      have y0 : w6.drew.cell? ⟨kb, koff, none⟩ = some (.int .i64 k) := y9
      have KR := Lib.hid kr
      have gs := grown_trans (grown_trans (grown_trans (grown_set w6 w.heap.size 0 (.int .i64 (prodZ s 5))) (grown_set _ w.heap.size 1 (.slice a6 9 c6))) (grown_set _ w.heap.size 2 (.int .i64 T))) (grown_set _ w.heap.size 3 (.slice a 6 c))
      have GZ := Lib.hid (gDrew (grown_new (grown_trans G0.out G6.out) gs (Nat.le_refl _)))
      have HZ := Lib.hid (OwnI.grown (OwnI.row H6.out gs (fun k e => by simp at e; have := WS.out; omega)) (gDrew (grown_refl _ none)))
      have BZ := Lib.hid (OwnI.grown (OwnI.row B6.out gs (fun k e => by simp at e; have := WS.out; omega)) (gDrew (grown_refl _ none)))
      have KB := Lib.hid (show some kb ≠ some w.heap.size from fun e => by simp at e; have := KBB.out; omega)
      have z0 := cell_dr (gs.cell y9 KB.out)
      have i1 : (0 : Int) < n' := by omega
      have i2 : 0 < n' := by omega
      have HI := Lib.hid (show IntsAt w6.drew a6 9 c6 (hdrL K ys r) from (OwnI.ints H6.out).1.grown (gDrew (grown_refl w6 none)))
      clear o6 g6 gs hT G6 H6 B6 kr hk hkb
      go_wp2_with fail
      go_region_held3 (fun w' => w'.cell? ⟨kb, koff, none⟩ = some (.int .i64 k)) (first | go_keep | exact y0 | exact z0)
        (first
          | (go_at_call 40; refine (publicOf_any s _).mono ?_; rintro e w7 ⟨rfl, rfl⟩)
          | (go_at_call 77; refine (tagOf_any k _ _ _ _ (hdrL K ys r) KR.out HI.out HL9.out.1).mono ?_; rintro e w8 ⟨rfl, rfl⟩; rw [HT2.out]))
      all_goals
        have BL6 := Lib.hid (show (onAll (packL zs) K).length = 6 by rw [onAll_len, L6.out])
        go_wp2
        refine bodyPost_ret (v := .tuple #[.agg #[.int .i64 (prodZ s 5), .slice a6 9 c6, .int .i64 T, .slice a 6 c], .bool true]) ?_ rfl ?_
        · (simp only [results, Try.results41]; go_simp)
        · rw [A.out, B.out]
          unfold mkL
          rw [HK.out, HT.out]
          refine ⟨a6, c6, a, c, ?_, ?_, ?_, GZ.out⟩
          · rw [HL9.out.2, BL6.out]
          · rw [HL9.out.2]; exact Own.lower HZ.out (by have := WS.out; omega)
          · rw [BL6.out]; exact Own.lower BZ.out (by have := WS.out; omega)
end Go.Proofs.Ytedpkhboepahgaa
