/- The header of the program. -/
import Derived.Test.YtedpkhboepahgaaHdrS
import Derived.Test.YtedpkhboepahgaaFillI
import Derived.WalkKit
import Derived.Lib.Hide
import Derived.Deep.QuietTactic
import Derived.BigQuiet
import Derived.OwnWalk
import Derived.Deep.RegionHeld3
namespace Go.Proofs.Ytedpkhboepahgaa
open Go.RowKit
theorem set_last (m : Nat) (r : Int) : ((List.replicate (m + 2) (0 : Int)).set 0 1).set 1 r = 1 :: r :: List.replicate m 0 := rfl
set_option maxRecDepth 8000 in
set_option maxHeartbeats 4000000 in
theorem headerOf_any (w : World) (ao : Option Addr) (n cap : Nat) (ks : List Int) (bo : Option Addr) (n' cap' : Nat) (ns : List Int) (r : Int) (h : IntsAt w ao n cap ks) (h' : IntsAt w bo n' cap' ns) (hp : PathP ks) (hn : NamesP ns) (hl : ns.length = ks.length) (hr : 0 ≤ r ∧ r ≤ 7) :
    Calls Try.prog 81 #[.slice ao n cap, .slice bo n' cap', .int .i64 r] w (IntsPost w (hdrL ks ns r)) := by
  obtain ⟨i0', hi0, hz0, hz1, hz2⟩ := info_parts info_int
  have HN := Lib.hid h.len
  have HN' := Lib.hid h'.len
  have hnn : n' = n := by have := HN.out; have := HN'.out; omega
  subst hnn
  have HK := Lib.hid h
  have HS := Lib.hid h'
  have PP := Lib.hid hp
  have NP := Lib.hid hn
  have HL := Lib.hid hl
  have HR := Lib.hid hr
  have hn1 : 1 ≤ n' ∧ n' ≤ 3 := by have := hp.2; have := HN.out; omega
  obtain ⟨hn1, hn3⟩ := hn1
  obtain ⟨b, off, rfl, hb, hc⟩ := IntsAt.addr HK.out (by omega)
  obtain ⟨b', off', rfl, hb', hc'⟩ := IntsAt.addr HS.out (by omega)
  have HC := Lib.hid hc
  have HC' := Lib.hid hc'
  have km := RowAt.max h
  have kl := RowAt.le h
  have km' := RowAt.max h'
  have kl' := RowAt.le h'
  clear h h' hp hn hl hr hc hc'
  go_enter Try.func81, Try.ntmps81
  go_wp2_with fail
  refine (fillerOf_any _ _ _ _ ks HK.out PP.out).mono ?_
  rintro e w1 ⟨a1, c1, rfl, o1, g1⟩
  obtain ⟨fl, hfl⟩ : ∃ fl, (fillL ks).length = fl := ⟨_, rfl⟩
  have HF := Lib.hid hfl
  have hf6 : fl ≤ 6 := by rw [← hfl]; exact (path_fill PP.out).2
  rw [hfl] at o1 ⊢
  obtain ⟨q, hq⟩ : ∃ q : Nat, 9 - fl = q := ⟨_, rfl⟩
  have hqz : (9 : Int) - (fl : Int) = (q : Int) := by omega
  have HQ := Lib.hid (show q = 7 - fl + 2 ∧ q ≤ 9 by omega)
  have q0 : (0 : Int) < q := by omega
  have q1 : (1 : Int) < q := by omega
  have O1 := Lib.hid o1
  have G1 := Lib.hid g1
  clear o1 g1 hfl hq
  go_wp2_with (at_make; refine wpList_make_full w1 rfl _ _ 23 rfl w1.heap.size 3 i0' (.int .i64 0) 1 Try.underlying23 hi0 hz0 hz1 .i64 .i64 q q q rfl rfl rfl rfl (by rw [hz2]; omega) (by unfold maxLen; omega) (Nat.le_refl _) ?_; intro w2 o2 g2; refine Hid.out ?_)
  show wpList _ _ _ _ _ _
  rw [made_ints] at o2
  have o3 : OwnI w1.heap.size w2 (.slice (some ⟨w1.heap.size, 0, none⟩) q q) (List.replicate q 0) := by
    unfold OwnI Own
    simpa using o2
  obtain ⟨cz0, fz0, -, hset0⟩ := ints_at1 o3 0 (by simp; omega)
  obtain ⟨cz1, fz1, -, -⟩ := ints_at1 o3 1 (by simp; omega)
  obtain ⟨dz1, ez1, -, hset1⟩ := ints_at1 (hset0 1) 1 (by simp; omega)
  have O4 := Lib.hid (show OwnI w1.heap.size ((w2.setCell ⟨w1.heap.size, 0, none⟩ (.int .i64 1)).setCell ⟨w1.heap.size, 1, none⟩ (.int .i64 r)) (.slice (some ⟨w1.heap.size, 0, none⟩) q q) (lastL ks r) by
    have := hset1 r
    rw [HQ.out.1, set_last] at this
    unfold lastL
    rw [HF.out, HQ.out.1]
    exact this)
  have G4 := Lib.hid (gSet (gSet (g2) (p := ⟨w1.heap.size, 0, none⟩) (Nat.le_refl _) (.int .i64 1)) (p := ⟨w1.heap.size, 1, none⟩) (Nat.le_refl _) (.int .i64 r))
  clear o2 o3 g2 hset0 hset1 hi0 hz0 hz1 hz2
  obtain ⟨t, ht⟩ : ∃ t : Nat, n' - 1 = t := ⟨_, rfl⟩
  have htz : (n' : Int) - 1 = (t : Int) := by omega
  have ht0 : (t : Int) < n' := by omega
  have HT := Lib.hid (show ks.length - 1 = t by rw [HN.out]; exact ht)
  have GG := Lib.hid (grown_trans G1.out G4.out)
  have ck := GG.out.cell (HC.out t (by omega)) (by simp)
  have kr := PP.out.1 t (by have := HN.out; omega)
  obtain ⟨k, hk⟩ : ∃ k, ks.getD t 0 = k := ⟨_, rfl⟩
  rw [hk] at ck kr
  have KR := Lib.hid kr
  have HKK := Lib.hid hk
  have LL := Lib.hid (lastL_list PP.out HR.out)
  have LN := Lib.hid (lastL_len PP.out r)
  have F4 := Lib.hid (OwnI.grown O1.out G4.out)
  clear ht hk kr
  go_wp2_with fail
  refine (maskOn_any _ _ _ _ (lastL ks r) k (OwnI.ints O4.out).1 LL.out KR.out).mono ?_
  rintro e w5 ⟨a5, c5, rfl, o5, g5⟩
  have F5 := Lib.hid (OwnI.grown F4.out g5)
  have G5 := Lib.hid (grown_trans GG.out g5)
  have O5 := Lib.hid o5
  have S5 := Lib.hid g5.size
  have ZG := Lib.hid GG.out.size
  obtain ⟨N5, hN5⟩ : ∃ N5, (onL (lastL ks r) k).length = N5 := ⟨_, rfl⟩
  rw [hN5] at O5 ⊢
  clear o5 g5 ck hN5 F4 cz0 fz0 cz1 fz1 dz1 ez1 O4
  go_wp2_with (at_builtin; refine app_ints rfl (.tmp 31) (.tmp 32) rfl O5.out (OwnI.ints F5.out).1 rfl rfl S5.out (by rw [onL_len, LN.out, HF.out]; omega) ?_; intro v6 w6 o6 g6; refine Hid.out ?_)
  show wpList _ _ _ _ _ _
  have G6 := Lib.hid (gRow G5.out g6 (fun k hk e => by have h2 := (World.ownsRow.lt O5.out k e.symm).1; have := ZG.out; omega))
  have E6 := hdr0_len PP.out r
  have O6 := Lib.hid (Own.lower (own_eq o6 (show hdr0 ks r = onL (lastL ks r) k ++ fillL ks by unfold hdr0; rw [HT.out, HKK.out])) ZG.out)
  have P6 := Lib.hid (hdr0_list PP.out HR.out)
  clear o6 g6 O5 F5 G5 S5
  obtain ⟨a6, c6, rfl, -, -⟩ := OwnI.shape O6.out
  rw [E6] at O6 ⊢
  clear E6
  have H0 : Hid (hdrM ks ns r (ks.length - 1 - t) = hdr0 ks r) := Lib.hid (by rw [HT.out, Nat.sub_self]; rfl)
  have O7 := Lib.hid (own_eq O6.out H0.out)
  clear O6 P6
  go_wp2_with fail
  go_loopw [8, 10, 11] (fun x v q wr => ∃ p : Nat, ∃ a c, p ≤ t ∧ q = .int .i64 ((p : Int) - 1) ∧ v = .slice a 9 c ∧ Hid (OwnI w.heap.size wr v (hdrM ks ns r (ks.length - 1 - p))) ∧ Hid (w.grownBy wr none)) (fun _ _ q _ => (intOf q + 1).toNat)
  case atStart => exact ⟨t, a6, c6, by omega, rfl, rfl, O7, G6⟩
  case round =>
    clear O7 G6
    obtain ⟨p, a, c, hpt, rfl, rfl, ho, hg⟩ := hrel
    cases p with
    | zero =>
      have E := Lib.hid (show hdrM ks ns r (ks.length - 1 - 0) = hdrL ks ns r from rfl)
      have O9 := Lib.hid (own_eq ho.out E.out.symm)
      have G9 := Lib.hid hg.out
      have L9 := (hdrL_ok PP.out NP.out HL.out HR.out).2
      clear ho hg
      go_wp2
      go_ret
      exact ⟨a, c, by rw [L9]; rfl, by rw [L9]; exact O9.out, G9.out⟩
    | succ p =>
      rw [show (((p + 1 : Nat) : Int) - 1) = (p : Int) by omega]
      have ND := Lib.hid (hdrM_down (ks := ks) (ns := ns) (r := r) (p := p) (by have := HT.out; omega))
      have HM := Lib.hid (hdrM_ok PP.out NP.out HL.out HR.out (ks.length - 1 - (p + 1)) (by have := PP.out.2; omega))
      obtain ⟨X, hX⟩ : ∃ X, hdrM ks ns r (ks.length - 1 - (p + 1)) = X := ⟨_, rfl⟩
      rw [hX] at ho ND HM
      have FW := Lib.hid (fwdL_list (ks := ks) (ns := ns) (i := p) HM.out.1 (by rw [HL.out]; have := HT.out; omega) NP.out)
      have FWL := Lib.hid (fwdL_len (ks := ks) (ns := ns) (i := p) HM.out.2)
      have cn0 := hg.out.cell (HC'.out (p + 1) (by omega)) (by simp)
      have ckn0 := hg.out.cell (HC.out (p + 1) (by omega)) (by simp)
      have kr2 := PP.out.1 (p + 1) (by have := HN.out; omega)
      have FE : Hid (fwdL ks ns p X = [0, ns.getD (p + 1) 0, tagL (ks.getD (p + 1) 0) X] ++ X.take 6) := Lib.hid rfl
      obtain ⟨nm, hnm⟩ : ∃ nm, ns.getD (p + 1) 0 = nm := ⟨_, rfl⟩
      obtain ⟨kq, hkq⟩ : ∃ kq, ks.getD (p + 1) 0 = kq := ⟨_, rfl⟩
      rw [hkq] at ckn0 kr2 FE
      obtain ⟨tg, htg⟩ : ∃ tg, tagL kq X = tg := ⟨_, rfl⟩
      rw [hnm, htg] at FE
      rw [hnm] at cn0
      have cn : wr.drew.cell? ⟨b', off' + (p + 1), none⟩ = some (.int .i64 nm) := cn0
      have ckn : wr.drew.cell? ⟨b, off + (p + 1), none⟩ = some (.int .i64 kq) := ckn0
      have TG := Lib.hid htg
      have KQ := Lib.hid kr2
      have XD := Lib.hid (show IntsAt wr.drew a 9 c X from (OwnI.ints ho.out).1.grown (gDrew (grown_refl wr none)))
      have X6 := Lib.hid (IntsAt.grown (IntsAt.pre (OwnI.ints ho.out).1 6 (by omega)) (gDrew (gAlloc (grown_refl wr none) (.cells #[.int .i64 0, .int .i64 nm, .int .i64 tg] 3))))
      have O3 := Lib.hid (OwnI.grown (own3 wr 0 nm tg) (gDrew (grown_refl _ none)))
      have GA := Lib.hid (gDrew (gAlloc (grown_refl wr none) (.cells #[.int .i64 0, .int .i64 nm, .int .i64 tg] 3)))
      have hb2 := Lib.hid (show b' < wr.heap.size ∧ b < wr.heap.size from ⟨Nat.lt_of_lt_of_le hb' hg.out.size, Nat.lt_of_lt_of_le hb hg.out.size⟩)
      have cap9 := RowAt.le (OwnI.ints ho.out).1
      have i0 : (0 : Int) ≤ (p : Int) := by omega
      have i1 : (p : Int) + 1 < n' := by omega
      have i2 : IntKind.i64.wrap ((p : Int) + 1) = (p : Int) + 1 := IntWalk.i64_in _ (by omega)
      have i7 : (0 : Int) ≤ (p : Int) + 1 := by omega
      have i8 : ¬ (p : Int) + 1 < 0 := by omega
      have i3 : ((p : Int) + 1).toNat = p + 1 := by omega
      have i6 : (6 : Int) ≤ c := by omega
      have GW := Lib.hid hg.out
      have LX := Lib.hid HM.out
      clear hX hnm htg ho hg HM hkq kr2
      go_wp2
      go_region_held3 (fun w' => w'.cell? ⟨b', off' + (p + 1), none⟩ = some (.int .i64 nm) ∧ w'.cell? ⟨b, off + (p + 1), none⟩ = some (.int .i64 kq)) (first | go_keep | exact ⟨cn, ckn⟩ | exact ⟨cell_ad cn0, cell_ad ckn0⟩ | exact ⟨cn3, ckn3⟩)
        (first
          | (go_at_call 77; refine (tagOf_any kq _ _ _ _ X KQ.out XD.out LX.out.1).mono ?_; rintro e w9 ⟨rfl, rfl⟩; rw [TG.out])
          | (refine step_ints (B := wr.heap.size) rfl (.tmp 52) (.tmp 54) rfl O3.out X6.out rfl rfl GA.out.size (by have := LX.out.2; simp; omega) ?_; intro v3 w3 o3 g3; have cn3 := g3.cell (show World.cell? _ ⟨b', off' + (p + 1), none⟩ = some (.int .i64 nm) from cell_ad cn0) (fun e => by have := (World.ownsRow.lt O3.out b' e.symm).1; have := hb2.out; omega); have ckn3 := g3.cell (show World.cell? _ ⟨b, off + (p + 1), none⟩ = some (.int .i64 kq) from cell_ad ckn0) (fun e => by have := (World.ownsRow.lt O3.out b e.symm).1; have := hb2.out; omega)))
      have O4 := Lib.hid (own_eq (Own.lower o3 GW.out.size) FE.out)
      have G4 := Lib.hid (grown_trans GW.out (grown_own GA.out O3.out g3 (Nat.le_refl _)))
      obtain ⟨a4, c4, rfl, -, -⟩ := OwnI.shape O4.out
      rw [FWL.out] at O4 ⊢
      have ck := G4.out.cell (HC.out p (by omega)) (by simp)
      have kr := PP.out.1 p (by have := HN.out; omega)
      obtain ⟨kk, hkk⟩ : ∃ kk, ks.getD p 0 = kk := ⟨_, rfl⟩
      rw [hkk] at ck kr ND
      have KR2 := Lib.hid kr
      have i9 : (p : Int) < n' := by omega
      clear o3 g3 cn3 cn cn0 ckn3 ckn ckn0 i2 i3 i7 i8 hkk kr
      go_wp2_with fail
      refine (maskOn_any _ _ _ _ (fwdL ks ns p X) kk (OwnI.ints O4.out).1 FW.out KR2.out).mono ?_
      rintro e w8 ⟨a8, c8, rfl, o8, g8⟩
      rw [onL_len, FWL.out] at o8 ⊢
      rw [← ND.out] at o8
      have O8 := Lib.hid (Own.lower o8 G4.out.size)
      have G8 := Lib.hid (grown_trans G4.out g8)
      clear o8 g8
      go_wp2
      go_roundw
      case rel => exact ⟨p, a8, c8, by omega, by go_num, rfl, O8, G8⟩
      case measure => simp [intOf]
end Go.Proofs.Ytedpkhboepahgaa
