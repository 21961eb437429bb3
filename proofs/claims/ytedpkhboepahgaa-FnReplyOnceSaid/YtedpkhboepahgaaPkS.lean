/- Packets and blocks of the reference. -/
import Derived.Test.YtedpkhboepahgaaHdrS
import Derived.Test.YtedpkhboepahgaaNames
import Derived.WalkKit
import Derived.Lib.Hide
import Derived.Deep.QuietTactic
import Derived.BigQuiet
import Derived.OwnWalk
namespace Go.Proofs.Ytedpkhboepahgaa
open Go.RowKit
/-- a packet in plain words: element, header, tag, body -/
abbrev Pk := Int × List Int × Int × List Int
def MkP (s : Int) (ps ns : List Int) (r : Int) (l : List Int) : Prop := PackP l ∧ KeyMP s ps ∧ ns.length = ps.length ∧ NamesP ns ∧ (0 ≤ r ∧ r ≤ 7)
noncomputable def mkL (s : Int) (ps ns : List Int) (r : Int) (l : List Int) : Pk :=
  (prodZ s 5, hdrL (keysL s ps) ns r, tagL ((keysL s ps).getD 0 0) (hdrL (keysL s ps) ns r), onAll (packL l) (keysL s ps))
open Classical in
noncomputable def mkR (s : Int) (ps ns : List Int) (r : Int) (l : List Int) : Pk := if MkP s ps ns r l then mkL s ps ns r l else (0, [], 0, [])
theorem mkR_yes {s : Int} {ps ns : List Int} {r : Int} {l : List Int} (h : MkP s ps ns r l) : mkR s ps ns r l = mkL s ps ns r l := if_pos h
theorem mkR_no {s : Int} {ps ns : List Int} {r : Int} {l : List Int} (h : ¬ MkP s ps ns r l) : mkR s ps ns r l = (0, [], 0, []) := if_neg h
/-- a packet of the call's own, and a bool -/
def PkPost (w : World) (P : Pk) (b : Bool) (e : Ending) (w' : World) : Prop :=
  ∃ ha hc ba bc, e = .returned (.tuple #[.agg #[.int .i64 P.1, .slice ha P.2.1.length hc, .int .i64 P.2.2.1, .slice ba P.2.2.2.length bc], .bool b]) ∧ OwnI w.heap.size w' (.slice ha P.2.1.length hc) P.2.1 ∧ OwnI w.heap.size w' (.slice ba P.2.2.2.length bc) P.2.2.2 ∧ w.grownBy w' none
theorem mkP_ok {s : Int} {ps ns : List Int} {r : Int} {l : List Int} (h : MkP s ps ns r l) : PathP (keysL s ps) ∧ ns.length = (keysL s ps).length :=
  ⟨keysL_path h.2.1.1 h.2.1.2, by rw [keysL_len]; exact h.2.2.1⟩
theorem own_none (B : Nat) (w : World) : OwnI B w (.slice none 0 0) [] := ⟨rfl, .inl ⟨rfl, rfl⟩⟩
theorem pk_no {w w' : World} {P : Pk} {b : Bool} (h : P = (0, [], 0, [])) (hb : b = false) (g : w.grownBy w' none) : PkPost w P b (.returned (.tuple #[.agg #[.int .i64 0, .slice none 0 0, .int .i64 0, .slice none 0 0], .bool false])) w' := by
  subst h; subst hb
  exact ⟨none, 0, none, 0, rfl, own_none _ _, own_none _ _, g⟩
abbrev pk0 : Obj := .cells #[.int .i64 0, .slice none 0 0, .int .i64 0, .slice none 0 0] 35
set_option maxRecDepth 8000 in
set_option maxHeartbeats 8000000 in
theorem packetMakeS_any (s : Int) (w : World) (ao : Option Addr) (n cap : Nat) (xs : List Int) (bo : Option Addr) (n' cap' : Nat) (ys : List Int) (r : Int) (co : Option Addr) (m mc : Nat) (zs : List Int) (h : IntsAt w ao n cap xs) (h' : IntsAt w bo n' cap' ys) (h'' : IntsAt w co m mc zs) :
    Calls Try.prog 46 #[.int .i64 s, .slice ao n cap, .slice bo n' cap', .int .i64 r, .slice co m mc] w (PkPost w (mkR s xs ys r zs) (pb (MkP s xs ys r zs))) := by
  have G0 := Lib.hid (grown_alloc w pk0 none)
  have D0 := Lib.hid (show (w.alloc pk0).heap[w.heap.size]? = some pk0 from heap_alloc_new w _)
  have HX := Lib.hid h.len
  have HY := Lib.hid h'.len
  have A0 := Lib.hid (h.grown G0.out)
  have N0 := Lib.hid (h'.grown G0.out)
  have Z0 := Lib.hid (h''.grown G0.out)
  have WS := Lib.hid (show (w.alloc pk0).heap.size = w.heap.size + 1 by simp)
  clear h h' h''
  go_enter Try.func46, Try.ntmps46
  go_wp2_with fail
  refine (letterPackS_any _ _ _ _ zs Z0.out).mono ?_
  rintro e w1 ⟨a1, c1, rfl, o1, g1⟩
  have D1 := Lib.hid (blkK g1 D0.out (by simp))
  have A1 := Lib.hid (A0.out.grown g1)
  have N1 := Lib.hid (N0.out.grown g1)
  have G1 := Lib.hid (grown_trans G0.out g1)
  have GL := Lib.hid g1
  have O1 := Lib.hid o1
  have d0 := blkC D1.out 0 rfl
  have d1 := blkC D1.out 1 rfl
  have d2 := blkC D1.out 2 rfl
  have d3 := blkC D1.out 3 rfl
  have f0 := blkF D1.out 0
  have f1 := blkF D1.out 1
  have f2 := blkF D1.out 2
  have f3 := blkF D1.out 3
  have gs := grown_trans (grown_trans (grown_trans (grown_set w1 w.heap.size 0 (.int .i64 0)) (grown_set _ w.heap.size 1 (.slice none 0 0))) (grown_set _ w.heap.size 2 (.int .i64 0))) (grown_set _ w.heap.size 3 (.slice none 0 0))
  have GZ := Lib.hid (grown_new G1.out gs (Nat.le_refl _))
  clear o1 g1 gs
  cases h1 : pb (PackP zs)
  case false =>
    have NK : ¬ MkP s xs ys r zs := fun e => (pb_not.1 h1) e.1
    have A := Lib.hid (mkR_no NK)
    have B := Lib.hid (pb_false NK)
    clear NK
    go_wp2_with (first | (go_at_call 82; refine (l1Is_any _ _).mono ?_; rintro e w' ⟨rfl, rfl⟩; rw [K2.out]) | (go_at_call 68; refine (l5Publics_any _ _ _ _ _ A1.out).mono ?_; rintro e w' ⟨rfl, rfl⟩; rw [K3.out]) | (go_at_call 83; refine (l5Names_any _ _ _ _ _ N1.out).mono ?_; rintro e w' ⟨rfl, rfl⟩; rw [K4.out]) | (go_at_call 74; refine (l6In_any _ _ _ _).mono ?_; rintro e w' ⟨rfl, rfl⟩; rw [K5.out]))
    refine bodyPost_ret (v := .tuple #[.agg #[.int .i64 0, .slice none 0 0, .int .i64 0, .slice none 0 0], .bool false]) ?_ rfl (pk_no A.out B.out GZ.out)
    (simp only [results, Try.results46]; go_simp)
  cases h2 : elB s
  case false =>
    have K2 := Lib.hid h2
    have NK : ¬ MkP s xs ys r zs := fun e => by rw [elB_iff.2 e.2.1.1] at h2; cases h2
    have A := Lib.hid (mkR_no NK)
    have B := Lib.hid (pb_false NK)
    clear NK
    go_wp2_with (first | (go_at_call 82; refine (l1Is_any _ _).mono ?_; rintro e w' ⟨rfl, rfl⟩; rw [K2.out]) | (go_at_call 68; refine (l5Publics_any _ _ _ _ _ A1.out).mono ?_; rintro e w' ⟨rfl, rfl⟩; rw [K3.out]) | (go_at_call 83; refine (l5Names_any _ _ _ _ _ N1.out).mono ?_; rintro e w' ⟨rfl, rfl⟩; rw [K4.out]) | (go_at_call 74; refine (l6In_any _ _ _ _).mono ?_; rintro e w' ⟨rfl, rfl⟩; rw [K5.out]))
    refine bodyPost_ret (v := .tuple #[.agg #[.int .i64 0, .slice none 0 0, .int .i64 0, .slice none 0 0], .bool false]) ?_ rfl (pk_no A.out B.out GZ.out)
    (simp only [results, Try.results46]; go_simp)
  have K2 := Lib.hid h2
  cases h3 : pb (PathP xs)
  case false =>
    have K3 := Lib.hid h3
    have NK : ¬ MkP s xs ys r zs := fun e => (pb_not.1 h3) e.2.1.2
    have A := Lib.hid (mkR_no NK)
    have B := Lib.hid (pb_false NK)
    clear NK
    go_wp2_with (first | (go_at_call 82; refine (l1Is_any _ _).mono ?_; rintro e w' ⟨rfl, rfl⟩; rw [K2.out]) | (go_at_call 68; refine (l5Publics_any _ _ _ _ _ A1.out).mono ?_; rintro e w' ⟨rfl, rfl⟩; rw [K3.out]) | (go_at_call 83; refine (l5Names_any _ _ _ _ _ N1.out).mono ?_; rintro e w' ⟨rfl, rfl⟩; rw [K4.out]) | (go_at_call 74; refine (l6In_any _ _ _ _).mono ?_; rintro e w' ⟨rfl, rfl⟩; rw [K5.out]))
    refine bodyPost_ret (v := .tuple #[.agg #[.int .i64 0, .slice none 0 0, .int .i64 0, .slice none 0 0], .bool false]) ?_ rfl (pk_no A.out B.out GZ.out)
    (simp only [results, Try.results46]; go_simp)
  have K3 := Lib.hid h3
  by_cases h4 : n' = n
  case neg =>
    have nn : ((n' : Int) != n) = true := by simp; omega
    have NK : ¬ MkP s xs ys r zs := fun e => h4 (by have := e.2.2.1; have := HX.out; have := HY.out; omega)
    have A := Lib.hid (mkR_no NK)
    have B := Lib.hid (pb_false NK)
    clear NK
    go_wp2_with (first | (go_at_call 82; refine (l1Is_any _ _).mono ?_; rintro e w' ⟨rfl, rfl⟩; rw [K2.out]) | (go_at_call 68; refine (l5Publics_any _ _ _ _ _ A1.out).mono ?_; rintro e w' ⟨rfl, rfl⟩; rw [K3.out]) | (go_at_call 83; refine (l5Names_any _ _ _ _ _ N1.out).mono ?_; rintro e w' ⟨rfl, rfl⟩; rw [K4.out]) | (go_at_call 74; refine (l6In_any _ _ _ _).mono ?_; rintro e w' ⟨rfl, rfl⟩; rw [K5.out]))
    refine bodyPost_ret (v := .tuple #[.agg #[.int .i64 0, .slice none 0 0, .int .i64 0, .slice none 0 0], .bool false]) ?_ rfl (pk_no A.out B.out GZ.out)
    (simp only [results, Try.results46]; go_simp)
  subst h4
  cases h5 : pb (NamesP ys)
  case false =>
    have K4 := Lib.hid h5
    have NK : ¬ MkP s xs ys r zs := fun e => (pb_not.1 h5) e.2.2.2.1
    have A := Lib.hid (mkR_no NK)
    have B := Lib.hid (pb_false NK)
    clear NK
    go_wp2_with (first | (go_at_call 82; refine (l1Is_any _ _).mono ?_; rintro e w' ⟨rfl, rfl⟩; rw [K2.out]) | (go_at_call 68; refine (l5Publics_any _ _ _ _ _ A1.out).mono ?_; rintro e w' ⟨rfl, rfl⟩; rw [K3.out]) | (go_at_call 83; refine (l5Names_any _ _ _ _ _ N1.out).mono ?_; rintro e w' ⟨rfl, rfl⟩; rw [K4.out]) | (go_at_call 74; refine (l6In_any _ _ _ _).mono ?_; rintro e w' ⟨rfl, rfl⟩; rw [K5.out]))
    refine bodyPost_ret (v := .tuple #[.agg #[.int .i64 0, .slice none 0 0, .int .i64 0, .slice none 0 0], .bool false]) ?_ rfl (pk_no A.out B.out GZ.out)
    (simp only [results, Try.results46]; go_simp)
  have K4 := Lib.hid h5
  cases h6 : inB r 0 7
  case false =>
    have K5 := Lib.hid h6
    have NK : ¬ MkP s xs ys r zs := fun e => by rw [inB_iff.2 e.2.2.2.2] at h6; cases h6
    have A := Lib.hid (mkR_no NK)
    have B := Lib.hid (pb_false NK)
    clear NK
    go_wp2_with (first | (go_at_call 82; refine (l1Is_any _ _).mono ?_; rintro e w' ⟨rfl, rfl⟩; rw [K2.out]) | (go_at_call 68; refine (l5Publics_any _ _ _ _ _ A1.out).mono ?_; rintro e w' ⟨rfl, rfl⟩; rw [K3.out]) | (go_at_call 83; refine (l5Names_any _ _ _ _ _ N1.out).mono ?_; rintro e w' ⟨rfl, rfl⟩; rw [K4.out]) | (go_at_call 74; refine (l6In_any _ _ _ _).mono ?_; rintro e w' ⟨rfl, rfl⟩; rw [K5.out]))
    refine bodyPost_ret (v := .tuple #[.agg #[.int .i64 0, .slice none 0 0, .int .i64 0, .slice none 0 0], .bool false]) ?_ rfl (pk_no A.out B.out GZ.out)
    (simp only [results, Try.results46]; go_simp)
  have K5 := Lib.hid h6
  have hM : MkP s xs ys r zs := ⟨pb_iff.1 h1, ⟨elB_iff.1 h2, pb_iff.1 h3⟩, by have := HX.out; have := HY.out; omega, pb_iff.1 h5, inB_iff.1 h6⟩
  have M := Lib.hid hM
  have A := Lib.hid (mkR_yes hM)
  have B := Lib.hid (pb_true hM)
  rw [packR_yes hM.1] at O1 ⊢
  rw [packL_len hM.1.2] at O1 ⊢
  clear h1 h2 h3 h5 h6 hM GZ d0 d1 d2 d3 f0 f1 f2 f3
  go_wp2_with (first | (go_at_call 82; refine (l1Is_any _ _).mono ?_; rintro e w' ⟨rfl, rfl⟩; rw [K2.out]) | (go_at_call 68; refine (l5Publics_any _ _ _ _ _ A1.out).mono ?_; rintro e w' ⟨rfl, rfl⟩; rw [K3.out]) | (go_at_call 83; refine (l5Names_any _ _ _ _ _ N1.out).mono ?_; rintro e w' ⟨rfl, rfl⟩; rw [K4.out]) | (go_at_call 74; refine (l6In_any _ _ _ _).mono ?_; rintro e w' ⟨rfl, rfl⟩; rw [K5.out]))
  have KX := Lib.hid (mkP_ok M.out)
  have hx3 : n' ≤ 3 := by have := M.out.2.1.2.2; have := HX.out; omega
  refine (l5Keys_any s _ _ _ _ xs M.out.2.1.1 A1.out M.out.2.1.2.1 (by omega)).mono ?_
  rintro e w2 ⟨a2, c2, rfl, o2, g2⟩
  obtain ⟨K, hK⟩ : ∃ K, keysL s xs = K := ⟨_, rfl⟩
  have HK := Lib.hid hK
  rw [hK] at o2 KX ⊢
  have KL := Lib.hid (show K.length = n' by rw [← hK, keysL_len]; exact HX.out)
  rw [KL.out] at o2 ⊢
  have O2 := Lib.hid (OwnI.ints o2).1
  have B0 := Lib.hid (Own.lower (OwnI.grown O1.out g2) (Nat.le_refl _))
  have N2 := Lib.hid (N1.out.grown g2)
  have G2 := Lib.hid (grown_trans GL.out g2)
  have PL := Lib.hid (packL_list M.out.1)
  have L6 := Lib.hid (packL_len M.out.1.2)
  have km := RowAt.max O2.out
  have kl := RowAt.le O2.out
  clear o2 g2 O1 N1 A1 hK
  go_wp2_with fail
  go_loopw [12, 15] (fun v i wr => ∃ j : Nat, ∃ a c, j ≤ n' ∧ i = .int .i64 j ∧ v = .slice a 6 c ∧ Hid (OwnI (w.alloc pk0).heap.size wr v (onAll (packL zs) (K.take j))) ∧ Hid (w2.grownBy wr none)) (fun _ i _ => n' - (intOf i).toNat)
  case atStart => exact ⟨0, _, _, by omega, rfl, rfl, B0, Lib.hid (grown_refl _ _)⟩
  case round =>
    clear B0
    obtain ⟨j, a, c, hj, rfl, rfl, ho, hg⟩ := hrel
    have LP := Lib.hid (onAll_list PL.out (K.take j))
    by_cases hlt : j < n'
    · obtain ⟨kb, koff, rfl, -, hc⟩ := IntsAt.addr (O2.out.grown hg.out) (by omega)
      have ck := hc j hlt
      have kr := KX.out.1.1 j (by have := KL.out; omega)
      have NX := Lib.hid (onAll_step (xs := packL zs) (ks := K) (j := j) (by have := KL.out; omega))
      obtain ⟨k, hk⟩ : ∃ k, K.getD j 0 = k := ⟨_, rfl⟩
      rw [hk] at ck kr NX
      have KR := Lib.hid kr
      clear hc hk kr
      go_wp2_with fail
      refine (l2On_any _ _ _ _ (onAll (packL zs) (K.take j)) k (OwnI.ints ho.out).1 LP.out KR.out).mono ?_
      rintro e w5 ⟨a5, c5, rfl, o5, g5⟩
      rw [onL_len, onAll_len, L6.out] at o5 ⊢
      rw [← NX.out] at o5
      have O5 := Lib.hid (Own.lower o5 (grown_trans G2.out hg.out).size)
      have G5 := Lib.hid (grown_trans hg.out g5)
      clear o5 g5 ho hg
      go_wp2
      go_roundw
      case rel => exact ⟨j + 1, a5, c5, by omega, by go_num, rfl, O5, G5⟩
      case measure => simp [intOf]; omega
    · have E := Lib.hid (show onAll (packL zs) (K.take j) = onAll (packL zs) K by rw [List.take_of_length_le (by have := KL.out; omega)])
      rw [E.out] at ho
      have BO := Lib.hid ho.out
      have O3 := Lib.hid (O2.out.grown hg.out)
      have N3 := Lib.hid (N2.out.grown hg.out)
      have G3 := Lib.hid (grown_trans G2.out hg.out)
      clear ho hg E LP
      go_wp2_with fail
      refine (l5Header_any _ _ _ _ K _ _ _ ys r O3.out N3.out KX.out.1 M.out.2.2.2.1 KX.out.2 M.out.2.2.2.2).mono ?_
      rintro e w6 ⟨a6, c6, rfl, o6, g6⟩
      have G6 := Lib.hid (grown_trans G3.out g6)
      have H6 := Lib.hid (Own.lower o6 G3.out.size)
      have B6 := Lib.hid (OwnI.grown BO.out g6)
      have D6 := Lib.hid (blkK G6.out D0.out (by simp))
      have d0 := blkC D6.out 0 rfl
      have d1 := blkC D6.out 1 rfl
      have d2 := blkC D6.out 2 rfl
      have d3 := blkC D6.out 3 rfl
      have f0 := blkF D6.out 0
      have f1 := blkF D6.out 1
      have f2 := blkF D6.out 2
      have f3 := blkF D6.out 3
      obtain ⟨T, hT⟩ : ∃ T, tagL (K.getD 0 0) (hdrL K ys r) = T := ⟨_, rfl⟩
      have HT := Lib.hid hT
      rw [hT]
      have gs := grown_trans (grown_trans (grown_trans (grown_set w6 w.heap.size 0 (.int .i64 (prodZ s 5))) (grown_set _ w.heap.size 1 (.slice a6 9 c6))) (grown_set _ w.heap.size 2 (.int .i64 T))) (grown_set _ w.heap.size 3 (.slice a 6 c))
      have GZ := Lib.hid (grown_new (grown_trans G0.out G6.out) gs (Nat.le_refl _))
      have HZ := Lib.hid (OwnI.row H6.out gs (fun k e => by simp at e; have := WS.out; omega))
      have BZ := Lib.hid (OwnI.row B6.out gs (fun k e => by simp at e; have := WS.out; omega))
      clear o6 g6 gs hT G6 H6 B6
      go_wp2_with (go_at_call 85; refine (publicOfS_any s _ M.out.2.1.1).mono ?_; rintro e w' ⟨rfl, rfl⟩)
      have HL9 := Lib.hid (hdrL_ok KX.out.1 M.out.2.2.2.1 KX.out.2 M.out.2.2.2.2).2
      have BL6 := Lib.hid (show (onAll (packL zs) K).length = 6 by rw [onAll_len, L6.out])
      refine bodyPost_ret (v := .tuple #[.agg #[.int .i64 (prodZ s 5), .slice a6 9 c6, .int .i64 T, .slice a 6 c], .bool true]) ?_ rfl ?_
      · (simp only [results, Try.results46]; go_simp)
      · rw [A.out, B.out]
        unfold mkL
        rw [HK.out, HT.out]
        refine ⟨a6, c6, a, c, ?_, ?_, ?_, GZ.out⟩
        · rw [HL9.out, BL6.out]
        · rw [HL9.out]; exact Own.lower HZ.out (by have := WS.out; omega)
        · rw [BL6.out]; exact Own.lower BZ.out (by have := WS.out; omega)
end Go.Proofs.Ytedpkhboepahgaa
