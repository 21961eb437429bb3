/- Paths; replies opened. -/
import Derived.Test.YtedpkhboepahgaaLetO
import Derived.Test.YtedpkhboepahgaaMask
import Derived.WalkKit
import Derived.Lib.Hide
import Derived.Deep.QuietTactic
import Derived.BigQuiet
import Derived.OwnWalk
namespace Go.Proofs.Ytedpkhboepahgaa
open Go.RowKit
/-- keys of a path -/
def ElsP (ks : List Int) : Prop := ∀ i, i < ks.length → 1 ≤ ks.getD i 0 ∧ ks.getD i 0 ≤ 996
def PathP (ks : List Int) : Prop := ElsP ks ∧ 1 ≤ ks.length ∧ ks.length ≤ 3
set_option maxHeartbeats 1000000 in
theorem isPath_any (w : World) (ao : Option Addr) (n cap : Nat) (xs : List Int) (h : IntsAt w ao n cap xs) :
    Calls Try.prog 58 #[.slice ao n cap] w fun e w' => e = .returned (.bool (pb (PathP xs))) ∧ w = w' := by
  have hm := RowAt.max h
  have hnm := RowAt.le h
  have H := Lib.hid h.len
  go_enter Try.func58, Try.ntmps58
  go_wp2
  go_loop [4, 7] (fun u i => ∃ k : Nat, k ≤ n ∧ i = .int .i64 k ∧ Hid (∀ j, j < k → 1 ≤ xs.getD j 0 ∧ xs.getD j 0 ≤ 996)) (fun u i => n - (intOf i).toNat)
  case atStart => exact ⟨0, Nat.zero_le _, rfl, Lib.hid fun j hj => by omega⟩
  case round =>
    obtain ⟨k, hk, rfl, hok⟩ := hrel
    by_cases hlt : k < n
    · obtain ⟨b, off, rfl, hb, hc⟩ := h.addr (by omega)
      obtain ⟨z, hz⟩ : ∃ z, xs.getD k 0 = z := ⟨_, rfl⟩
      have cz := hc k hlt
      rw [hz] at cz
      have Hz := Lib.hid hz
      clear hz hc
      cases hnz : elB z
      · have Hp := Lib.hid (show pb (PathP xs) = false from pb_false fun e => by
          have h1 := e.1 k (by have := H.out; omega)
          rw [Hz.out] at h1
          rw [elB_iff.2 h1] at hnz
          cases hnz)
        have Hn := Lib.hid hnz
        clear hnz
        go_wp2_with (go_at_call 51; refine (isElement_any z _).mono ?_; rintro e w' ⟨rfl, rfl⟩; rw [Hn.out])
        go_ret
        exact ⟨by rw [Hp.out]; rfl, rfl⟩
      · have Hok := Lib.hid (elB_iff.1 hnz)
        have Hn := Lib.hid hnz
        clear hnz
        go_wp2_with (go_at_call 51; refine (isElement_any z _).mono ?_; rintro e w' ⟨rfl, rfl⟩; rw [Hn.out])
        go_round
        case rel => exact ⟨k + 1, by omega, by go_num, Lib.hid fun j hj => by
          by_cases e : j = k
          · subst e; rw [Hz.out]; exact Hok.out
          · exact hok.out j (by omega)⟩
        case measure => simp [intOf]; omega
    · have Hp := Lib.hid (show inB (n : Int) 1 3 = pb (PathP xs) from by
        by_cases hb : inB (n : Int) 1 3 = true
        · rw [hb]; have := inB_iff.1 hb; exact (pb_true ⟨fun j hj => hok.out j (by have := H.out; omega), by have := H.out; omega, by have := H.out; omega⟩).symm
        · have hb' : inB (n : Int) 1 3 = false := by simpa using hb
          rw [hb']; exact (pb_false fun e => hb (inB_iff.2 (by have := e.2; have := H.out; omega))).symm)
      go_wp2_with (go_at_call 55; refine (within_any _ 1 3 _).mono ?_; rintro e w' ⟨rfl, rfl⟩)
      go_ret
      exact ⟨by rw [← Hp.out]; rfl, rfl⟩
set_option maxHeartbeats 1000000 in
theorem l5Publics_any (w : World) (ao : Option Addr) (n cap : Nat) (xs : List Int) (h : IntsAt w ao n cap xs) :
    Calls Try.prog 68 #[.slice ao n cap] w fun e w' => e = .returned (.bool (pb (PathP xs))) ∧ w = w' := by
  have hm := RowAt.max h
  have hnm := RowAt.le h
  have H := Lib.hid h.len
  go_enter Try.func68, Try.ntmps68
  go_wp2
  go_loop [3] (fun  i => ∃ k : Nat, k ≤ n ∧ i = .int .i64 k ∧ Hid (∀ j, j < k → 1 ≤ xs.getD j 0 ∧ xs.getD j 0 ≤ 996)) (fun  i => n - (intOf i).toNat)
  case atStart => exact ⟨0, Nat.zero_le _, rfl, Lib.hid fun j hj => by omega⟩
  case round =>
    obtain ⟨k, hk, rfl, hok⟩ := hrel
    by_cases hlt : k < n
    · obtain ⟨b, off, rfl, hb, hc⟩ := h.addr (by omega)
      obtain ⟨z, hz⟩ : ∃ z, xs.getD k 0 = z := ⟨_, rfl⟩
      have cz := hc k hlt
      rw [hz] at cz
      have Hz := Lib.hid hz
      clear hz hc
      cases hnz : elB z
      · have Hp := Lib.hid (show pb (PathP xs) = false from pb_false fun e => by
          have h1 := e.1 k (by have := H.out; omega)
          rw [Hz.out] at h1
          rw [elB_iff.2 h1] at hnz
          cases hnz)
        have Hn := Lib.hid hnz
        clear hnz
        go_wp2_with (go_at_call 82; refine (l1Is_any z _).mono ?_; rintro e w' ⟨rfl, rfl⟩; rw [Hn.out])
        go_ret
        exact ⟨by rw [Hp.out]; rfl, rfl⟩
      · have Hok := Lib.hid (elB_iff.1 hnz)
        have Hn := Lib.hid hnz
        clear hnz
        go_wp2_with (go_at_call 82; refine (l1Is_any z _).mono ?_; rintro e w' ⟨rfl, rfl⟩; rw [Hn.out])
        go_round
        case rel => exact ⟨k + 1, by omega, by go_num, Lib.hid fun j hj => by
          by_cases e : j = k
          · subst e; rw [Hz.out]; exact Hok.out
          · exact hok.out j (by omega)⟩
        case measure => simp [intOf]; omega
    · have Hp := Lib.hid (show inB (n : Int) 1 3 = pb (PathP xs) from by
        by_cases hb : inB (n : Int) 1 3 = true
        · rw [hb]; have := inB_iff.1 hb; exact (pb_true ⟨fun j hj => hok.out j (by have := H.out; omega), by have := H.out; omega, by have := H.out; omega⟩).symm
        · have hb' : inB (n : Int) 1 3 = false := by simpa using hb
          rw [hb']; exact (pb_false fun e => hb (inB_iff.2 (by have := e.2; have := H.out; omega))).symm)
      go_wp2_with (go_at_call 74; refine (l6In_any _ 1 3 _).mono ?_; rintro e w' ⟨rfl, rfl⟩)
      go_ret
      exact ⟨by rw [← Hp.out]; rfl, rfl⟩
/-- keys and a body -/
def KeyP (ks b : List Int) : Prop := PathP ks ∧ ListP b ∧ b.length = 6
def RoP (ks b : List Int) : Prop := KeyP ks b ∧ OpenP (onAll b ks)
open Classical in
noncomputable def roR (ks b : List Int) : List Int := if KeyP ks b then openR (onAll b ks) else []
theorem roR_yes {ks b : List Int} (h : KeyP ks b) : roR ks b = openR (onAll b ks) := if_pos h
theorem roR_no {ks b : List Int} (h : ¬ KeyP ks b) : roR ks b = [] := if_neg h
theorem RetI.up {w w1 : World} {xs ys : List Int} {b b' : Bool} {e : Ending} {w' : World} (h : RetI w1 xs b e w') (g : w.grownBy w1 none) (hx : ys = xs) (hb : b' = b) : RetI w ys b' e w' := by
  subst hx; subst hb
  obtain ⟨ao, cap, e1, o, g1⟩ := h
  exact ⟨ao, cap, e1, Own.lower o g.size, grown_trans g g1⟩
set_option maxHeartbeats 2000000 in
theorem replyOpen_any (w : World) (ao : Option Addr) (n cap : Nat) (xs : List Int) (bo : Option Addr) (m cap' : Nat) (ys : List Int) (h : IntsAt w ao n cap xs) (h' : IntsAt w bo m cap' ys) :
    Calls Try.prog 19 #[.slice ao n cap, .slice bo m cap'] w (RetI w (roR xs ys) (pb (RoP xs ys))) := by
  have HN := Lib.hid h.len
  have HM := Lib.hid h'.len
  have hm := RowAt.max h
  have hnm := RowAt.le h
  have HK := Lib.hid h
  have HB := Lib.hid h'
  clear h h'
  cases hp : pb (PathP xs)
  case false =>
    have NKP : ¬ KeyP xs ys := fun e => (pb_not.1 hp) e.1
    have NK : ¬ KeyP xs ys := NKP
    have A := Lib.hid (roR_no NK)
    have B := Lib.hid (show pb (RoP xs ys) = false from pb_false fun e => NK e.1)
    have K := Lib.hid hp
    clear hp NK NKP
    go_enter Try.func19, Try.ntmps19
    go_wp2_with (go_at_call 58; refine (isPath_any _ _ _ _ _ HK.out).mono ?_; rintro e w' ⟨rfl, rfl⟩; rw [K.out])
    go_ret2
    exact ret_no A.out B.out
  cases hq : pb ((ys.length : Int) = 6 ∧ ListP ys)
  case false =>
    have NKP : ¬ KeyP xs ys := fun e => (pb_not.1 hq) ⟨by have := e.2.2; omega, e.2.1⟩
    have NK : ¬ KeyP xs ys := NKP
    have A := Lib.hid (roR_no NK)
    have B := Lib.hid (show pb (RoP xs ys) = false from pb_false fun e => NK e.1)
    have K := Lib.hid hp
    have K2 := Lib.hid hq
    clear hp NK NKP hq
    go_enter Try.func19, Try.ntmps19
    go_wp2_with (first | (go_at_call 58; refine (isPath_any _ _ _ _ _ HK.out).mono ?_; rintro e w' ⟨rfl, rfl⟩; rw [K.out]) | (go_at_call 59; refine (listOf_any _ _ _ _ _ 6 HB.out).mono ?_; rintro e w' ⟨rfl, rfl⟩; rw [K2.out]))
    go_ret2
    exact ret_no A.out B.out
  have K := Lib.hid hp
  have K2 := Lib.hid hq
  have PK := Lib.hid (pb_iff.1 hp)
  have PB := Lib.hid (pb_iff.1 hq).2
  have h6 : ys.length = 6 := by have := (pb_iff.1 hq).1; omega
  have hm6 : m = 6 := by rw [← HM.out]; exact h6
  subst hm6
  have L6 := Lib.hid h6
  have KP := Lib.hid (show KeyP xs ys from ⟨PK.out, PB.out, h6⟩)
  have G0 := Lib.hid (grown_refl w none)
  have A0 := Lib.hid (show IntsAt w bo 6 cap' (onAll ys (xs.take 0)) from HB.out)
  clear hp hq h6
  go_enter Try.func19, Try.ntmps19
  go_wp2_with (first | (go_at_call 58; refine (isPath_any _ _ _ _ _ HK.out).mono ?_; rintro e w' ⟨rfl, rfl⟩; rw [K.out]) | (go_at_call 59; refine (listOf_any _ _ _ _ _ 6 HB.out).mono ?_; rintro e w' ⟨rfl, rfl⟩; rw [K2.out]))
  go_loopw [1, 7, 18] (fun v u i wr => ∃ j : Nat, ∃ a c, j ≤ n ∧ i = .int .i64 j ∧ v = .slice a 6 c ∧ Hid (IntsAt wr a 6 c (onAll ys (xs.take j))) ∧ Hid (w.grownBy wr none)) (fun v u i _ => n - (intOf i).toNat)
  case atStart => exact ⟨0, _, _, by omega, rfl, rfl, A0, G0⟩
  case round =>
    obtain ⟨j, a, c, hj, rfl, rfl, ha, hg⟩ := hrel
    have LP := Lib.hid (onAll_list PB.out (xs.take j))
    by_cases hlt : j < n
    · obtain ⟨kb, koff, rfl, -, hc⟩ := IntsAt.addr (HK.out.grown hg.out) (by omega)
      have ck := hc j hlt
      have kr := PK.out.1 j (by have := HN.out; omega)
      have NX := Lib.hid (onAll_step (xs := ys) (ks := xs) (j := j) (by have := HN.out; omega))
      obtain ⟨k, hk⟩ : ∃ k, xs.getD j 0 = k := ⟨_, rfl⟩
      rw [hk] at ck kr NX
      have KR := Lib.hid kr
      clear hc hk kr
      go_wp2_with fail
      refine (maskOn_any _ _ _ _ (onAll ys (xs.take j)) k ha.out LP.out KR.out).mono ?_
      rintro e w5 ⟨a5, c5, rfl, o5, g5⟩
      rw [onL_len, onAll_len, L6.out] at o5 ⊢
      rw [← NX.out] at o5
      have I5 := Lib.hid (OwnI.ints o5).1
      have G5 := Lib.hid (grown_trans hg.out g5)
      clear o5 g5 ha hg
      go_wp2
      go_roundw
      case rel => exact ⟨j + 1, a5, c5, by omega, by go_num, rfl, I5, G5⟩
      case measure => simp [intOf]; omega
    · have E := Lib.hid (show onAll ys (xs.take j) = onAll ys xs by rw [List.take_of_length_le (by have := HN.out; omega)])
      go_wp2_with fail
      refine (letterOpen_any _ _ _ _ (onAll ys (xs.take j)) ha.out).mono ?_
      rintro e w5 ⟨a5, c5, rfl, o5, g5⟩
      rw [E.out] at o5 ⊢
      go_wp2
      go_ret2
      exact RetI.up ⟨a5, c5, rfl, o5, g5⟩ hg.out (roR_yes KP.out) (pb_congr ⟨fun e => e.2, fun e => ⟨KP.out, e⟩⟩)
set_option maxHeartbeats 2000000 in
theorem replyOpenS_any (w : World) (ao : Option Addr) (n cap : Nat) (xs : List Int) (bo : Option Addr) (m cap' : Nat) (ys : List Int) (h : IntsAt w ao n cap xs) (h' : IntsAt w bo m cap' ys) :
    Calls Try.prog 23 #[.slice ao n cap, .slice bo m cap'] w (RetI w (roR xs ys) (pb (RoP xs ys))) := by
  have HN := Lib.hid h.len
  have HM := Lib.hid h'.len
  have hm := RowAt.max h
  have hnm := RowAt.le h
  have HK := Lib.hid h
  have HB := Lib.hid h'
  clear h h'
  cases hp : pb (PathP xs)
  case false =>
    have NKP : ¬ KeyP xs ys := fun e => (pb_not.1 hp) e.1
    have NK : ¬ KeyP xs ys := NKP
    have A := Lib.hid (roR_no NK)
    have B := Lib.hid (show pb (RoP xs ys) = false from pb_false fun e => NK e.1)
    have K := Lib.hid hp
    clear hp NK NKP
    go_enter Try.func23, Try.ntmps23
    go_wp2_with (go_at_call 68; refine (l5Publics_any _ _ _ _ _ HK.out).mono ?_; rintro e w' ⟨rfl, rfl⟩; rw [K.out])
    go_ret2
    exact ret_nil A.out B.out (grown_refl _ _)
  cases hq : pb (ListP ys)
  case false =>
    have NKP : ¬ KeyP xs ys := fun e => (pb_not.1 hq) e.2.1
    have NK : ¬ KeyP xs ys := NKP
    have A := Lib.hid (roR_no NK)
    have B := Lib.hid (show pb (RoP xs ys) = false from pb_false fun e => NK e.1)
    have K := Lib.hid hp
    have K2 := Lib.hid hq
    clear hp NK NKP hq
    go_enter Try.func23, Try.ntmps23
    go_wp2_with (first | (go_at_call 68; refine (l5Publics_any _ _ _ _ _ HK.out).mono ?_; rintro e w' ⟨rfl, rfl⟩; rw [K.out]) | (go_at_call 69; refine (l2List_any _ _ _ _ _ HB.out).mono ?_; rintro e w' ⟨rfl, rfl⟩; rw [K2.out]))
    go_ret2
    exact ret_nil A.out B.out (grown_refl _ _)
  have K := Lib.hid hp
  have K2 := Lib.hid hq
  have PK := Lib.hid (pb_iff.1 hp)
  have PB := Lib.hid (pb_iff.1 hq)
  by_cases h6 : ys.length = 6
  case neg =>
    have NKP : ¬ KeyP xs ys := fun e => h6 e.2.2
    have NK : ¬ KeyP xs ys := NKP
    have A := Lib.hid (roR_no NK)
    have B := Lib.hid (show pb (RoP xs ys) = false from pb_false fun e => NK e.1)
    have hm6 : ((m : Int) != 6) = true := by have := HM.out; simp; omega
    clear hp NK NKP hq h6
    go_enter Try.func23, Try.ntmps23
    go_wp2_with (first | (go_at_call 68; refine (l5Publics_any _ _ _ _ _ HK.out).mono ?_; rintro e w' ⟨rfl, rfl⟩; rw [K.out]) | (go_at_call 69; refine (l2List_any _ _ _ _ _ HB.out).mono ?_; rintro e w' ⟨rfl, rfl⟩; rw [K2.out]))
    go_ret2
    exact ret_nil A.out B.out (grown_refl _ _)
  have hm6 : m = 6 := by rw [← HM.out]; exact h6
  subst hm6
  have L6 := Lib.hid h6
  have KP := Lib.hid (show KeyP xs ys from ⟨PK.out, PB.out, h6⟩)
  have N0 := Lib.hid (own_nil w.heap.size w (Nat.le_refl _))
  clear hp hq h6
  go_enter Try.func23, Try.ntmps23
  go_wp2_with (first | (go_at_call 68; refine (l5Publics_any _ _ _ _ _ HK.out).mono ?_; rintro e w' ⟨rfl, rfl⟩; rw [K.out]) | (go_at_call 69; refine (l2List_any _ _ _ _ _ HB.out).mono ?_; rintro e w' ⟨rfl, rfl⟩; rw [K2.out]) | (at_builtin; refine app_ints rfl (.tmp 22) (.tmp 23) rfl N0.out (HB.out.grown (grown_alloc _ _ none)) rfl rfl (grown_alloc w _ none).size (by rw [L6.out]; simp) ?_; intro v5 w5 o5 g5; refine Hid.out ?_))
  show wpList _ _ _ _ _ _
  have G0 := Lib.hid (grown_own (grown_alloc w (.cells #[] 3) none) N0.out g5 (Nat.le_refl _))
  have O5 := Lib.hid (own_eq o5 (show ys = [] ++ ys from rfl))
  clear o5 g5 N0
  obtain ⟨a5, c5, rfl, -, -⟩ := OwnI.shape O5.out
  rw [L6.out] at O5 ⊢
  have A0 := Lib.hid (show IntsAt w5 a5 6 c5 (onAll ys (xs.take 0)) from (OwnI.ints O5.out).1)
  clear O5
  go_wp2
  go_loopw [6, 7] (fun v i wr => ∃ j : Nat, ∃ a c, j ≤ n ∧ i = .int .i64 j ∧ v = .slice a 6 c ∧ Hid (IntsAt wr a 6 c (onAll ys (xs.take j))) ∧ Hid (w.grownBy wr none)) (fun v i _ => n - (intOf i).toNat)
  case atStart => exact ⟨0, _, _, by omega, rfl, rfl, A0, G0⟩
  case round =>
    obtain ⟨j, a, c, hj, rfl, rfl, ha, hg⟩ := hrel
    have LP := Lib.hid (onAll_list PB.out (xs.take j))
    by_cases hlt : j < n
    · obtain ⟨kb, koff, rfl, -, hc⟩ := IntsAt.addr (HK.out.grown hg.out) (by omega)
      have ck := hc j hlt
      have kr := PK.out.1 j (by have := HN.out; omega)
      have NX := Lib.hid (onAll_step (xs := ys) (ks := xs) (j := j) (by have := HN.out; omega))
      obtain ⟨k, hk⟩ : ∃ k, xs.getD j 0 = k := ⟨_, rfl⟩
      rw [hk] at ck kr NX
      have KR := Lib.hid kr
      clear hc hk kr
      go_wp2_with fail
      refine (l2On_any _ _ _ _ (onAll ys (xs.take j)) k ha.out LP.out KR.out).mono ?_
      rintro e w5 ⟨a5, c5, rfl, o5, g5⟩
      rw [onL_len, onAll_len, L6.out] at o5 ⊢
      rw [← NX.out] at o5
      have I5 := Lib.hid (OwnI.ints o5).1
      have G5 := Lib.hid (grown_trans hg.out g5)
      clear o5 g5 ha hg
      go_wp2
      go_roundw
      case rel => exact ⟨j + 1, a5, c5, by omega, by go_num, rfl, I5, G5⟩
      case measure => simp [intOf]; omega
    · have E := Lib.hid (show onAll ys (xs.take j) = onAll ys xs by rw [List.take_of_length_le (by have := HN.out; omega)])
      go_wp2_with fail
      refine (letterOpenS_any _ _ _ _ (onAll ys (xs.take j)) ha.out).mono ?_
      rintro e w5 ⟨a5, c5, rfl, o5, g5⟩
      rw [E.out] at o5 ⊢
      go_wp2
      go_ret2
      exact RetI.up ⟨a5, c5, rfl, o5, g5⟩ hg.out (roR_yes KP.out) (pb_congr ⟨fun e => e.2, fun e => ⟨KP.out, e⟩⟩)
end Go.Proofs.Ytedpkhboepahgaa
