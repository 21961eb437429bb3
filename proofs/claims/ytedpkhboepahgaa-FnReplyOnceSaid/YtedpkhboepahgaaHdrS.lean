/- The header of the reference. -/
import Derived.Test.YtedpkhboepahgaaFill
import Derived.Test.YtedpkhboepahgaaTag
import Derived.Test.YtedpkhboepahgaaLet
import Derived.WalkKit
import Derived.Lib.Hide
import Derived.Deep.QuietTactic
import Derived.BigQuiet
import Derived.OwnWalk
import Derived.Deep.RegionHeld3
namespace Go.Proofs.Ytedpkhboepahgaa
open Go.RowKit
theorem own3 (w : World) (x y z : Int) : OwnI w.heap.size (w.alloc (.cells #[.int .i64 x, .int .i64 y, .int .i64 z] 3)) (.slice (some ⟨w.heap.size, 0, none⟩) 3 3) [x, y, z] :=
  own_lit 3 w #[.int .i64 x, .int .i64 y, .int .i64 z] (by simp)
theorem hdrM_down {ks ns : List Int} {r : Int} {p : Nat} (h : p + 1 < ks.length) : hdrM ks ns r (ks.length - 1 - p) = onL (fwdL ks ns p (hdrM ks ns r (ks.length - 1 - (p + 1)))) (ks.getD p 0) := by
  obtain ⟨m, hm⟩ : ∃ m, ks.length - 1 - (p + 1) = m := ⟨_, rfl⟩
  rw [hm, show ks.length - 1 - p = m + 1 by omega]
  show onL (fwdL ks ns (ks.length - 2 - m) (hdrM ks ns r m)) (ks.getD (ks.length - 2 - m) 0) = _
  rw [show ks.length - 2 - m = p by omega]
def lastN (r : Int) (i : Nat) : List Int := 1 :: r :: List.replicate (1 + i) 0
theorem lastN_len (r : Int) (i : Nat) : (lastN r i).length = 3 + i := by simp [lastN]; omega
theorem lastN_succ (r : Int) (i : Nat) : lastN r (i + 1) = lastN r i ++ [0] := by
  simp only [lastN, List.cons_append]
  rw [← List.replicate_succ', show 1 + (i + 1) = 1 + i + 1 by omega]
/-- a header and its tag -/
def HdrPost (w : World) (h : List Int) (t : Int) (e : Ending) (w' : World) : Prop :=
  ∃ a c, e = .returned (.tuple #[.slice a 9 c, .int .i64 t]) ∧ OwnI w.heap.size w' (.slice a 9 c) h ∧ w.grownBy w' none
set_option maxRecDepth 8000 in
set_option maxHeartbeats 4000000 in
theorem l5Header_any (w : World) (ao : Option Addr) (n cap : Nat) (ks : List Int) (bo : Option Addr) (n' cap' : Nat) (ns : List Int) (r : Int) (h : IntsAt w ao n cap ks) (h' : IntsAt w bo n' cap' ns) (hp : PathP ks) (hn : NamesP ns) (hl : ns.length = ks.length) (hr : 0 ≤ r ∧ r ≤ 7) :
    Calls Try.prog 84 #[.slice ao n cap, .slice bo n' cap', .int .i64 r] w (HdrPost w (hdrL ks ns r) (tagL (ks.getD 0 0) (hdrL ks ns r))) := by
  have HN := Lib.hid h.len
  have HN' := Lib.hid h'.len
  have hnn : n' = n := by have := HN.out; have := HN'.out; omega
  subst hnn
  have HK := Lib.hid h
  have HS := Lib.hid h'
  have PP := Lib.hid hp
  have NP := Lib.hid hn
  have HL := Lib.hid hl
  have HR := Lib.hid hr
  have hn1 : 1 ≤ n' ∧ n' ≤ 3 := by have := hp.2; have := HN.out; omega
  obtain ⟨hn1, hn3⟩ := hn1
  obtain ⟨b, off, rfl, hb, hc⟩ := IntsAt.addr HK.out (by omega)
  obtain ⟨b', off', rfl, hb', hc'⟩ := IntsAt.addr HS.out (by omega)
  have HC := Lib.hid hc
  have HC' := Lib.hid hc'
  have km := RowAt.max h
  have kl := RowAt.le h
  have km' := RowAt.max h'
  have kl' := RowAt.le h'
  clear h h' hp hn hl hr hc hc'
  go_enter Try.func84, Try.ntmps84
  go_wp2_with fail
  refine (l5Filler_any _ _ _ _ ks HK.out PP.out).mono ?_
  rintro e w1 ⟨a1, c1, rfl, o1, g1⟩
  obtain ⟨fl, hfl⟩ : ∃ fl, (fillL ks).length = fl := ⟨_, rfl⟩
  have HF := Lib.hid hfl
  have hf6 : fl ≤ 6 := by rw [← hfl]; exact (path_fill PP.out).2
  rw [hfl] at o1 ⊢
  have O1 := Lib.hid (OwnI.grown o1 (grown_alloc w1 (.cells #[.int .i64 1, .int .i64 r, .int .i64 0] 3) none))
  have G1 := Lib.hid (gAlloc g1 (.cells #[.int .i64 1, .int .i64 r, .int .i64 0] 3))
  have L1 := Lib.hid (show OwnI w1.heap.size (w1.alloc (.cells #[.int .i64 1, .int .i64 r, .int .i64 0] 3)) (.slice (some ⟨w1.heap.size, 0, none⟩) (3 + 0) 3) (lastN r 0) from own3 w1 1 r 0)
  have Z1 := Lib.hid (World.ownsRow.lt o1)
  have ZW := Lib.hid g1.size
  clear o1 g1 hfl
  go_wp2_with fail
  go_loopw [9] (fun v wr => ∃ i : Nat, ∃ a c, v = .slice a (3 + i) c ∧ 3 + i + fl ≤ 9 ∧ Hid (OwnI w1.heap.size wr v (lastN r i)) ∧ Hid (OwnI w.heap.size wr (.slice a1 fl c1) (fillL ks)) ∧ Hid (w.grownBy wr none)) (fun v _ => 9 - lenOf v)
  case atStart => exact ⟨0, _, _, rfl, by omega, L1, O1, G1⟩
  case round =>
    clear L1 O1 G1
    obtain ⟨i, a, c, rfl, hi, ho, hf, hg⟩ := hrel
    by_cases hlt : 3 + i + fl < 9
    · have q : (3 : Int) + i + fl < 9 := by omega
      have S1 := Lib.hid (show w1.heap.size ≤ (wr.alloc (.cells #[.int .i64 0] 3)).heap.size by obtain ⟨g9, -, -, l9, l9', -⟩ := OwnI.at ho.out (by rw [lastN_len]; omega); simp; omega)
      have GA := Lib.hid (gAlloc hg.out (.cells #[.int .i64 0] 3))
      have OF := Lib.hid (OwnI.grown hf.out (grown_alloc wr (.cells #[.int .i64 0] 3) none))
      go_wp2_with (at_builtin; refine app_ints rfl (.tmp 25) (.tmp 26) rfl (OwnI.grown ho.out (grown_alloc _ _ none)) (one_int _ _) rfl rfl S1.out (by rw [lastN_len]; simp; omega) ?_; intro v5 w5 o5 g5; refine Hid.out ?_)
      show wpList _ _ _ _ _ _
      have LB := World.ownsRow.lt ho.out
      have F5 := Lib.hid (Own.apart OF.out g5 (by
        cases e : (Value.slice a1 fl c1).ownBlock with
        | none => exact .inl rfl
        | some k => exact .inr fun e2 => by have h1 := (Z1.out k e).2; have h2 := (LB k e2.symm).1; omega))
      have G5 := Lib.hid (gRow GA.out g5 (fun k hk e => by have h2 := (LB k e.symm).1; have := ZW.out; omega))
      have O5 := Lib.hid (own_eq o5 (lastN_succ r i))
      clear o5 g5 ho hg hf LB GA OF S1
      obtain ⟨a5, c5, rfl, -, -⟩ := OwnI.shape O5.out
      rw [lastN_len] at O5 ⊢
      go_wp2
      go_roundw
      case rel => exact ⟨i + 1, a5, c5, rfl, by omega, O5, F5, G5⟩
      case measure => simp [lenOf]; omega
    · have LE := Lib.hid (show lastN r i = lastL ks r by unfold lastN lastL; rw [HF.out, show 1 + i = 7 - fl by omega])
      have LL := Lib.hid (lastL_list PP.out HR.out)
      have LN := Lib.hid (lastL_len PP.out r)
      obtain ⟨t, ht⟩ : ∃ t : Nat, n' - 1 = t := ⟨_, rfl⟩
      have htz : (n' : Int) - 1 = (t : Int) := by omega
      have ht0 : (t : Int) < n' := by omega
      have HT := Lib.hid (show ks.length - 1 = t by rw [HN.out]; exact ht)
      have ck := hg.out.cell (HC.out t (by omega)) (by simp)
      have kr := PP.out.1 t (by have := HN.out; omega)
      obtain ⟨k, hk⟩ : ∃ k, ks.getD t 0 = k := ⟨_, rfl⟩
      rw [hk] at ck kr
      have KR := Lib.hid kr
      have HKK := Lib.hid hk
      have LI := Lib.hid (OwnI.ints ho.out).1
      rw [LE.out] at LI
      have F2 := Lib.hid hf.out
      have G2 := Lib.hid hg.out
      clear ho hf hg ht hk kr
      go_wp2_with fail
      refine (l2On_any _ _ _ _ (lastL ks r) k LI.out LL.out KR.out).mono ?_
      rintro e w5 ⟨a5, c5, rfl, o5, g5⟩
      have F5 := Lib.hid (OwnI.grown F2.out g5)
      have G5 := Lib.hid (grown_trans G2.out g5)
      have O5 := Lib.hid o5
      have S5 := Lib.hid g5.size
      obtain ⟨N5, hN5⟩ : ∃ N5, (onL (lastL ks r) k).length = N5 := ⟨_, rfl⟩
      rw [hN5] at O5 ⊢
      clear o5 g5 ck hN5
      go_wp2_with (at_builtin; refine app_ints rfl (.tmp 36) (.tmp 37) rfl O5.out (OwnI.ints F5.out).1 rfl rfl S5.out (by rw [onL_len, LN.out, HF.out]; omega) ?_; intro v6 w6 o6 g6; refine Hid.out ?_)
      show wpList _ _ _ _ _ _
      have G6 := Lib.hid (gRow G5.out g6 (fun k hk e => by have h2 := (World.ownsRow.lt O5.out k e.symm).1; have := G2.out.size; omega))
      have E6 := hdr0_len PP.out r
      have O6 := Lib.hid (Own.lower (own_eq o6 (show hdr0 ks r = onL (lastL ks r) k ++ fillL ks by unfold hdr0; rw [HT.out, HKK.out])) G2.out.size)
      have P6 := Lib.hid (hdr0_list PP.out HR.out)
      clear o6 g6 O5 F5 G5 S5
      obtain ⟨a6, c6, rfl, -, -⟩ := OwnI.shape O6.out
      rw [E6] at O6 ⊢
      clear E6
      have ck := G6.out.cell (HC.out t (by omega)) (by simp)
      rw [HKK.out] at ck
      have H0 : Hid (hdrM ks ns r (ks.length - 1 - t) = hdr0 ks r) := Lib.hid (by rw [HT.out, Nat.sub_self]; rfl)
      go_wp2_with (go_at_call 91; refine (l3Tag_any k _ _ _ _ (hdr0 ks r) KR.out (OwnI.ints O6.out).1 P6.out).mono ?_; rintro e w' ⟨rfl, rfl⟩)
      have T0 := Lib.hid (show tagL k (hdr0 ks r) = tagL (ks.getD t 0) (hdrM ks ns r (ks.length - 1 - t)) by rw [H0.out, HKK.out])
      have O7 := Lib.hid (own_eq O6.out H0.out)
      obtain ⟨T, hT⟩ : ∃ T, tagL k (hdr0 ks r) = T := ⟨_, rfl⟩
      have TE := Lib.hid (show T = tagL (ks.getD t 0) (hdrM ks ns r (ks.length - 1 - t)) by rw [← hT, T0.out])
      rw [hT]
      clear ck O6 P6 F2 G2 LI hT T0
      go_loopw [11, 12, 13, 14] (fun v u q x wr => ∃ p : Nat, ∃ a c, p ≤ t ∧ q = .int .i64 ((p : Int) - 1) ∧ v = .slice a 9 c ∧ u = .int .i64 (tagL (ks.getD p 0) (hdrM ks ns r (ks.length - 1 - p))) ∧ Hid (OwnI w.heap.size wr v (hdrM ks ns r (ks.length - 1 - p))) ∧ Hid (w.grownBy wr none)) (fun _ _ q _ _ => (intOf q + 1).toNat)
      case atStart => exact ⟨t, a6, c6, by omega, rfl, rfl, by rw [TE.out], O7, G6⟩
      case round =>
        clear O7 G6
        obtain ⟨p, a, c, hpt, rfl, rfl, rfl, ho, hg⟩ := hrel
        cases p with
        | zero =>
          have E := Lib.hid (show hdrM ks ns r (ks.length - 1 - 0) = hdrL ks ns r from rfl)
          rw [E.out] at ho ⊢
          have O9 := Lib.hid ho.out
          have G9 := Lib.hid hg.out
          clear ho hg
          go_wp2
          go_ret2
          exact ⟨a, c, rfl, O9.out, G9.out⟩
        | succ p =>
          rw [show (((p + 1 : Nat) : Int) - 1) = (p : Int) by omega]
          have ND := Lib.hid (hdrM_down (ks := ks) (ns := ns) (r := r) (p := p) (by have := HT.out; omega))
          have HM := Lib.hid (hdrM_ok PP.out NP.out HL.out HR.out (ks.length - 1 - (p + 1)) (by have := PP.out.2; omega))
          obtain ⟨X, hX⟩ : ∃ X, hdrM ks ns r (ks.length - 1 - (p + 1)) = X := ⟨_, rfl⟩
          rw [hX] at ho ND HM ⊢
          have FW := Lib.hid (fwdL_list (ks := ks) (ns := ns) (i := p) HM.out.1 (by rw [HL.out]; have := HT.out; omega) NP.out)
          have FWL := Lib.hid (fwdL_len (ks := ks) (ns := ns) (i := p) HM.out.2)
          have cn0 := hg.out.cell (HC'.out (p + 1) (by omega)) (by simp)
          have cn : wr.drew.cell? ⟨b', off' + (p + 1), none⟩ = some (.int .i64 (ns.getD (p + 1) 0)) := cn0
          have FE : Hid (fwdL ks ns p X = [0, ns.getD (p + 1) 0, tagL (ks.getD (p + 1) 0) X] ++ X.take 6) := Lib.hid rfl
          obtain ⟨nm, hnm⟩ : ∃ nm, ns.getD (p + 1) 0 = nm := ⟨_, rfl⟩
          obtain ⟨tg, htg⟩ : ∃ tg, tagL (ks.getD (p + 1) 0) X = tg := ⟨_, rfl⟩
          rw [hnm, htg] at FE
          rw [hnm] at cn0 cn
          rw [htg]
          have X6 := Lib.hid (IntsAt.grown (IntsAt.pre (OwnI.ints ho.out).1 6 (by omega)) (gDrew (gAlloc (grown_refl wr none) (.cells #[.int .i64 0, .int .i64 nm, .int .i64 tg] 3))))
          have O3 := Lib.hid (OwnI.grown (own3 wr 0 nm tg) (gDrew (grown_refl _ none)))
          have GA := Lib.hid (gDrew (gAlloc (grown_refl wr none) (.cells #[.int .i64 0, .int .i64 nm, .int .i64 tg] 3)))
          have hb2 := Lib.hid (show b' < wr.heap.size from Nat.lt_of_lt_of_le hb' hg.out.size)
          have cap9 := RowAt.le (OwnI.ints ho.out).1
          have i0 : (0 : Int) ≤ (p : Int) := by omega
          have i1 : (p : Int) + 1 < n' := by omega
          have i2 : IntKind.i64.wrap ((p : Int) + 1) = (p : Int) + 1 := IntWalk.i64_in _ (by omega)
          have i7 : (0 : Int) ≤ (p : Int) + 1 := by omega
          have i8 : ¬ (p : Int) + 1 < 0 := by omega
          have i3 : ((p : Int) + 1).toNat = p + 1 := by omega
          have i6 : (6 : Int) ≤ c := by omega
          have GW := Lib.hid hg.out
          have LX := Lib.hid HM.out.2
          clear hX hnm htg ho hg HM
          go_wp2
          go_region_held3 (fun w' => w'.cell? ⟨b', off' + (p + 1), none⟩ = some (.int .i64 nm)) (first | go_keep | exact cn | exact cell_ad cn0 | exact cn3)
            (first
              | (refine step_ints (B := wr.heap.size) rfl (.tmp 57) (.tmp 59) rfl O3.out X6.out rfl rfl GA.out.size (by simp; omega) ?_; intro v3 w3 o3 g3; have cn3 := g3.cell (show World.cell? _ ⟨b', off' + (p + 1), none⟩ = some (.int .i64 nm) from cell_ad cn0) (fun e => by have := (World.ownsRow.lt O3.out b' e.symm).1; have := hb2.out; omega)))
          have O4 := Lib.hid (own_eq (Own.lower o3 GW.out.size) FE.out)
          have G4 := Lib.hid (grown_trans GW.out (grown_own GA.out O3.out g3 (Nat.le_refl _)))
          obtain ⟨a4, c4, rfl, -, -⟩ := OwnI.shape O4.out
          rw [FWL.out] at O4 ⊢
          have ck := G4.out.cell (HC.out p (by omega)) (by simp)
          have kr := PP.out.1 p (by have := HN.out; omega)
          obtain ⟨kk, hkk⟩ : ∃ kk, ks.getD p 0 = kk := ⟨_, rfl⟩
          rw [hkk] at ck kr ND
          have KR2 := Lib.hid kr
          have HK2 := Lib.hid hkk
          have i9 : (p : Int) < n' := by omega
          clear o3 g3 cn3 cn cn0 i2 i3 i7 i8 hkk kr
          go_wp2_with fail
          refine (l2On_any _ _ _ _ (fwdL ks ns p X) kk (OwnI.ints O4.out).1 FW.out KR2.out).mono ?_
          rintro e w8 ⟨a8, c8, rfl, o8, g8⟩
          rw [onL_len, FWL.out] at o8 ⊢
          rw [← ND.out] at o8
          have HM8 := Lib.hid (hdrM_ok PP.out NP.out HL.out HR.out (ks.length - 1 - p) (by have := PP.out.2; omega))
          have O8 := Lib.hid (Own.lower o8 G4.out.size)
          have G8 := Lib.hid (grown_trans G4.out g8)
          have ck := g8.cell ck (by simp)
          clear o8 g8
          go_wp2_with (go_at_call 91; refine (l3Tag_any kk _ _ _ _ (hdrM ks ns r (ks.length - 1 - p)) KR2.out (OwnI.ints O8.out).1 HM8.out.1).mono ?_; rintro e w' ⟨rfl, rfl⟩)
          go_roundw
          case rel => exact ⟨p, a8, c8, by omega, by go_num, rfl, by rw [HK2.out], O8, G8⟩
          case measure => simp [intOf]
end Go.Proofs.Ytedpkhboepahgaa
