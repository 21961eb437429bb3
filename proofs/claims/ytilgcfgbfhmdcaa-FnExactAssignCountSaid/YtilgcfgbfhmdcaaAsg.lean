/- AssignValid, assignments, l33Count, AssignCount. -/
import Derived.Test.YtilgcfgbfhmdcaaBools
import Derived.Test.YtilgcfgbfhmdcaaAsgP
import Derived.WalkKit
import Derived.Lib.Hide
import Derived.Deep.QuietTactic
import Derived.BigQuiet
namespace Go.Proofs.Ytilgcfgbfhmdcaa
open Go.RowKit
set_option maxHeartbeats 1000000 in
theorem assignValid_any (w : World) (ao : Option Addr) (n cap : Nat) (rows : List (List Bool)) (h : GridAt w ao n cap rows) :
    Calls Try.prog 13 #[.slice ao n cap] w fun e w' => e = .returned (.bool (pb (GridP rows))) ∧ w = w' := by
  have hl := h.len
  have hm := TabAt.le h
  have H := Lib.hid hl
  clear hl
  go_enter Try.func13, Try.ntmps13
  go_wp2
  go_loop [7] (fun i => ∃ k : Nat, k ≤ n ∧ i = .int .i64 k ∧ Hid (∀ j, j < k → (rows.getD j []).length = n)) (fun i => n - (intOf i).toNat)
  case atStart => exact ⟨0, Nat.zero_le _, rfl, fun j hj => by omega⟩
  case round =>
    obtain ⟨k, hk, rfl, hok⟩ := hrel
    by_cases hlt : k < n
    · obtain ⟨b, off, ro, rc, rfl, cz, _⟩ := h.at k hlt
      obtain ⟨z, hz⟩ : ∃ z, (rows.getD k []).length = z := ⟨_, rfl⟩
      rw [hz] at cz
      have Hz := Lib.hid hz
      clear hz
      by_cases hzn : z = n
      · have hzn' : ((z : Int) != (n : Int)) = false := by simp; omega
        have Hzn := Lib.hid hzn
        clear hzn
        go_wp2
        go_round
        case rel => exact ⟨k + 1, by omega, by go_num, fun j hj => by
          by_cases e : j = k
          · subst e; rw [Hz.out]; exact Hzn.out
          · exact hok.out j (by omega)⟩
        case measure => simp [intOf]; omega
      · have hzn' : ((z : Int) != (n : Int)) = true := by simp; omega
        have hp : pb (GridP rows) = false := pb_false fun q => hzn (by rw [← Hz.out, q.2 k (by rw [H.out]; exact hlt), H.out])
        have Hp := Lib.hid hp
        clear hp hzn
        go_wp2
        go_ret
        exact ⟨by rw [Hp.out]; rfl, rfl⟩
    · have hp : pb (GridP rows) = inB n 1 5 := by
        cases hb : inB n 1 5
        · exact pb_false fun q => inB_false.1 hb (by have := q.1; have := H.out; omega)
        · have hb' := inB_iff.1 hb
          refine pb_true ⟨by have := H.out; omega, fun i hi => ?_⟩
          rw [H.out] at hi ⊢
          exact hok.out i (by omega)
      have Hp := Lib.hid hp
      clear hp
      go_wp2_with (go_at_call 21; refine (within_any _ _ _ _).mono ?_; rintro e w' ⟨rfl, rfl⟩)
      go_ret
      exact ⟨by rw [Hp.out]; rfl, rfl⟩
set_option maxHeartbeats 1000000 in
theorem assignValidS_any (w : World) (ao : Option Addr) (n cap : Nat) (rows : List (List Bool)) (h : GridAt w ao n cap rows) :
    Calls Try.prog 11 #[.slice ao n cap] w fun e w' => e = .returned (.bool (pb (GridP rows))) ∧ w = w' := by
  have hl := h.len
  have hm := TabAt.le h
  have H := Lib.hid hl
  clear hl
  go_enter Try.func11, Try.ntmps11
  go_wp2
  go_loop [3] (fun i => ∃ k : Nat, k ≤ n ∧ i = .int .i64 k ∧ Hid (∀ j, j < k → (rows.getD j []).length = n)) (fun i => n - (intOf i).toNat)
  case atStart => exact ⟨0, Nat.zero_le _, rfl, fun j hj => by omega⟩
  case round =>
    obtain ⟨k, hk, rfl, hok⟩ := hrel
    by_cases hlt : k < n
    · obtain ⟨b, off, ro, rc, rfl, cz, _⟩ := h.at k hlt
      obtain ⟨z, hz⟩ : ∃ z, (rows.getD k []).length = z := ⟨_, rfl⟩
      rw [hz] at cz
      have Hz := Lib.hid hz
      clear hz
      by_cases hzn : z = n
      · have hzn' : ((z : Int) != (n : Int)) = false := by simp; omega
        have Hzn := Lib.hid hzn
        clear hzn
        go_wp2
        go_round
        case rel => exact ⟨k + 1, by omega, by go_num, fun j hj => by
          by_cases e : j = k
          · subst e; rw [Hz.out]; exact Hzn.out
          · exact hok.out j (by omega)⟩
        case measure => simp [intOf]; omega
      · have hzn' : ((z : Int) != (n : Int)) = true := by simp; omega
        have hp : pb (GridP rows) = false := pb_false fun q => hzn (by rw [← Hz.out, q.2 k (by rw [H.out]; exact hlt), H.out])
        have Hp := Lib.hid hp
        clear hp hzn
        go_wp2
        go_ret
        exact ⟨by rw [Hp.out]; rfl, rfl⟩
    · have hp : pb (GridP rows) = inB n 1 5 := by
        cases hb : inB n 1 5
        · exact pb_false fun q => inB_false.1 hb (by have := q.1; have := H.out; omega)
        · have hb' := inB_iff.1 hb
          refine pb_true ⟨by have := H.out; omega, fun i hi => ?_⟩
          rw [H.out] at hi ⊢
          exact hok.out i (by omega)
      have Hp := Lib.hid hp
      clear hp
      go_wp2_with (go_at_call 19; refine (l6In_any _ _ _ _).mono ?_; rintro e w' ⟨rfl, rfl⟩)
      go_ret
      exact ⟨by rw [Hp.out]; rfl, rfl⟩
theorem and_bit : ∀ k : Nat, k < 5 → ∀ T : Nat, T < 32 → (bits .and .u64 ((T : Int) / 2 ^ k) 1 == 0) = !T.testBit k := by decide +kernel
theorem or_bit : ∀ k : Nat, k < 5 → ∀ T : Nat, T < 32 → bits .or .u64 (T : Int) (IntKind.u64.wrap (2 ^ k)) = ((T ||| 2 ^ k : Nat) : Int) := by decide +kernel
theorem or_lt : ∀ k : Nat, k < 5 → ∀ T : Nat, T < 32 → T ||| 2 ^ k < 32 := by decide +kernel
theorem or_test (T k x : Nat) : (T ||| 2 ^ k).testBit x = (x == k || T.testBit x) := by
  rw [Nat.testBit_or, Nat.testBit_two_pow, Bool.or_comm]
  congr 1
  rw [Bool.eq_iff_iff, decide_eq_true_iff, beq_iff_eq]
  exact eq_comm
set_option maxHeartbeats 2000000 in
theorem assignments_any (ao : Option Addr) (n cap : Nat) (rows : List (List Bool)) (hn : n ≤ 5) : ∀ (d T : Nat) (w : World), GridAt w ao n cap rows → (∀ i, i < n → (rows.getD i []).length = n) → d ≤ n → T < 32 →
    Calls Try.prog 25 #[.slice ao n cap, .int .i64 ((n : Int) - d), .int .u64 T] w fun e w' => e = .returned (.int .i64 (cnt rows n d (fun x => T.testBit x) : Nat)) ∧ w = w' := by
  intro d
  induction d with
  | zero =>
    intro T w h _ _ _
    have e : ((n : Int) - (0 : Nat) == (n : Int)) = true := by simp
    go_enter Try.func25, Try.ntmps25
    go_wp2_with fail
    go_ret
    exact ⟨rfl, rfl⟩
  | succ d ih =>
    intro T w h hlen hd hT
    have IH := Lib.hid ih
    have HL := Lib.hid hlen
    clear ih hlen
    obtain ⟨s, hs⟩ : ∃ s : Nat, n - (d + 1) = s := ⟨_, rfl⟩
    have es : (n : Int) - ((d + 1 : Nat) : Int) = (s : Int) := by omega
    rw [es]
    have hsn : s < n := by omega
    have Hs := Lib.hid hs
    clear es hs
    have ne : ((s : Int) == (n : Int)) = false := by simp; omega
    obtain ⟨b, off, ro, rc, rfl, cz, hrow⟩ := h.at s hsn
    obtain ⟨row, hr⟩ : ∃ row, rows.getD s [] = row := ⟨_, rfl⟩
    have hrl : row.length = n := by rw [← hr]; exact HL.out s hsn
    rw [hr, hrl] at cz hrow
    have Hr := Lib.hid hr
    clear hr hrl
    go_enter Try.func25, Try.ntmps25
    go_wp2_with fail
    obtain ⟨g, hg⟩ : ∃ g : Nat → Nat, (fun r => if (may rows (n - (d + 1)) r && !T.testBit r) = true then cnt rows n d (fun x => x == r || T.testBit x) else 0) = g := ⟨_, rfl⟩
    have HG := Lib.hid hg
    have gle : ∀ i, g i ≤ 3125 := fun i => by
      rw [← hg]
      dsimp only
      split
      · exact cnt_small _ _ _ _ hn (by omega)
      · omega
    have GLE := Lib.hid gle
    clear hg gle
    go_loop [7, 19] (fun a i => ∃ k : Nat, k ≤ n ∧ i = .int .i64 k ∧ a = .int .i64 (sumTo g k : Nat)) (fun _ i => n - (intOf i).toNat)
    case atStart => exact ⟨0, Nat.zero_le _, rfl, rfl⟩
    case round =>
      obtain ⟨k, hk, rfl, rfl⟩ := hrel
      by_cases hlt : k < n
      · obtain ⟨b2, off2, rfl, _, cb⟩ := hrow.get k hlt
        obtain ⟨z, hz⟩ : ∃ z, row.getD k false = z := ⟨_, rfl⟩
        rw [hz] at cb
        have Hz := Lib.hid hz
        clear hz
        have gk : g k = if (z && !T.testBit k) = true then cnt rows n d (fun x => x == k || T.testBit x) else 0 := by
          rw [← HG.out]
          dsimp only
          rw [Hs.out]
          unfold may
          rw [Hr.out, Hz.out]
        cases z
        · have g0 : g k = 0 := by rw [gk]; simp
          have G0 := Lib.hid g0
          clear gk g0
          go_wp2_with fail
          go_round
          case rel => exact ⟨k + 1, by omega, by go_num, by rw [sumTo, G0.out]; rfl⟩
          case measure => simp [intOf]; omega
        · cases tb : T.testBit k
          · have hb := and_bit k (by omega) T hT
            rw [tb] at hb
            simp only [Bool.not_false] at hb
            have g1 : g k = cnt rows n d (fun x => (T ||| 2 ^ k).testBit x) := by
              rw [gk, tb, if_pos (by simp)]
              refine cnt_congr rows n d _ _ fun x _ => ?_
              rw [or_test]
            have G1 := Lib.hid g1
            have HO := Lib.hid (or_bit k (by omega) T hT)
            have ES := Lib.hid (show (s : Int) + 1 = (n : Int) - (d : Nat) by have := Hs.out; omega)
            have hlt32 := or_lt k (by omega) T hT
            have b1 := sumTo_le (g := g) (b := 3125) k (fun i _ => GLE.out i)
            have b2' := GLE.out k
            clear gk g1
            go_wp2_with fail
            rw [HO.out, ES.out]
            refine (IH.out _ _ h HL.out (by omega) hlt32).mono ?_
            rintro e w' ⟨rfl, rfl⟩
            rw [← G1.out]
            go_wp2_with fail
            go_round
            case rel => exact ⟨k + 1, by omega, by go_num, by rw [sumTo]; go_num⟩
            case measure => simp [intOf]; omega
          · have hb := and_bit k (by omega) T hT
            rw [tb] at hb
            simp only [Bool.not_true] at hb
            have g0 : g k = 0 := by rw [gk, tb]; simp
            have G0 := Lib.hid g0
            clear gk g0 tb
            go_wp2_with fail
            go_round
            case rel => exact ⟨k + 1, by omega, by go_num, by rw [sumTo, G0.out]; rfl⟩
            case measure => simp [intOf]; omega
      · have hkn : k = n := by omega
        subst hkn
        have fin : cnt rows k (d + 1) (fun x => T.testBit x) = sumTo g k := by rw [cnt, HG.out]
        have Fin_ := Lib.hid fin
        clear fin
        go_wp2_with fail
        go_ret
        exact ⟨by rw [Fin_.out]; rfl, rfl⟩
set_option maxHeartbeats 4000000 in
theorem l33Count_any (ao : Option Addr) (n cap : Nat) (rows : List (List Bool)) (hn : n ≤ 5) : ∀ (d : Nat) (used : List Int) (uo : Option Addr) (um uc : Nat) (w : World), GridAt w ao n cap rows → (∀ i, i < n → (rows.getD i []).length = n) → d ≤ n → IntsAt w uo um uc used → um ≤ 10 - d →
    Calls Try.prog 26 #[.slice ao n cap, .int .i64 ((n : Int) - d), .slice uo um uc] w fun e w' => e = .returned (.int .i64 (cnt rows n d (fun x => pb ((x : Int) ∈ used)) : Nat)) ∧ w.grownBy w' none := by
  intro d
  induction d with
  | zero =>
    intro used uo um uc w h _ _ _ _
    have e : ((n : Int) - (0 : Nat) == (n : Int)) = true := by simp
    go_enter Try.func26, Try.ntmps26
    go_wp2_with fail
    go_ret
    exact ⟨rfl, grown_refl _ _⟩
  | succ d ih =>
    intro used uo um uc w h hlen hd hu hum
    have IH := Lib.hid ih
    have HL := Lib.hid hlen
    clear ih hlen
    obtain ⟨s, hs⟩ : ∃ s : Nat, n - (d + 1) = s := ⟨_, rfl⟩
    have es : (n : Int) - ((d + 1 : Nat) : Int) = (s : Int) := by omega
    rw [es]
    have hsn : s < n := by omega
    have Hs := Lib.hid hs
    clear es hs
    have ne : ((s : Int) == (n : Int)) = false := by simp; omega
    have Hum := Lib.hid hu.len
    obtain ⟨g, hg⟩ : ∃ g : Nat → Nat, (fun r => if (may rows (n - (d + 1)) r && !pb ((r : Int) ∈ used)) = true then cnt rows n d (fun x => x == r || pb ((x : Int) ∈ used)) else 0) = g := ⟨_, rfl⟩
    have HG := Lib.hid hg
    have gle : ∀ i, g i ≤ 3125 := fun i => by
      rw [← hg]
      dsimp only
      split
      · exact cnt_small _ _ _ _ hn (by omega)
      · omega
    have GLE := Lib.hid gle
    clear hg gle
    go_enter Try.func26, Try.ntmps26
    go_wp2_with fail
    go_loopw [7, 8] (fun a i wr => ∃ k : Nat, k ≤ n ∧ i = .int .i64 k ∧ a = .int .i64 (sumTo g k : Nat) ∧ Hid (w.grownBy wr none)) (fun _ i _ => n - (intOf i).toNat)
    case atStart => exact ⟨0, Nat.zero_le _, rfl, rfl, grown_refl _ _⟩
    case round =>
      obtain ⟨k, hk, rfl, rfl, hgr⟩ := hrel
      by_cases hlt : k < n
      · obtain ⟨b, off, ro, rc, rfl, cz, hrow⟩ := (h.grown hgr.out).at s hsn
        obtain ⟨row, hr⟩ : ∃ row, rows.getD s [] = row := ⟨_, rfl⟩
        have hrl : row.length = n := by rw [← hr]; exact HL.out s hsn
        rw [hr, hrl] at cz hrow
        have Hr := Lib.hid hr
        obtain ⟨b2, off2, rfl, _, cb⟩ := hrow.get k hlt
        obtain ⟨z, hz⟩ : ∃ z, row.getD k false = z := ⟨_, rfl⟩
        rw [hz] at cb
        have Hz := Lib.hid hz
        have gk : g k = if (z && !pb ((k : Int) ∈ used)) = true then cnt rows n d (fun x => x == k || pb ((x : Int) ∈ used)) else 0 := by
          rw [← HG.out]
          dsimp only
          rw [Hs.out]
          unfold may
          rw [Hr.out, Hz.out]
        clear hr hrl hz hrow
        cases z
        · have g0 : g k = 0 := by rw [gk]; simp
          have G0 := Lib.hid g0
          clear gk g0
          go_wp2_with fail
          go_roundw
          case rel => exact ⟨k + 1, by omega, by go_num, by rw [sumTo, G0.out]; rfl, hgr⟩
          case measure => simp [intOf]; omega
        · have hur := hu.grown hgr.out
          go_wp2_with fail
          refine (l1Has_any _ _ _ _ _ _ hur).mono ?_
          rintro e w1 ⟨rfl, rfl⟩
          by_cases hin : (k : Int) ∈ used
          · have K := Lib.hid (pb_true hin)
            rw [K.out]
            have g0 : g k = 0 := by rw [gk, K.out]; simp
            have G0 := Lib.hid g0
            clear gk g0 hin
            go_wp2_with fail
            go_roundw
            case rel => exact ⟨k + 1, by omega, by go_num, by rw [sumTo, G0.out]; rfl, hgr⟩
            case measure => simp [intOf]; omega
          · have K := Lib.hid (pb_false hin)
            rw [K.out]
            have g1 : g k = cnt rows n d (fun x => pb ((x : Int) ∈ used ++ [(k : Int)])) := by
              rw [gk, K.out, if_pos (by simp)]
              refine cnt_congr rows n d _ _ fun x _ => ?_
              rw [pb_congr (List.mem_append (s := used) (t := [(k : Int)]) (a := (x : Int)))]
              by_cases e : x = k
              · subst e
                rw [pb_true (Or.inr (by simp))]; simp
              · have e' : ¬ ((x : Int) ∈ [(k : Int)]) := by simp; omega
                have : (x == k) = false := by simpa using e
                rw [this, Bool.false_or]
                exact pb_congr ⟨.inl, fun q => q.resolve_right e'⟩
            have G1 := Lib.hid g1
            have ES := Lib.hid (show (s : Int) + 1 = (n : Int) - (d : Nat) by have := Hs.out; omega)
            have b1 := sumTo_le (g := g) (b := 3125) k (fun i _ => GLE.out i)
            have b2' := GLE.out k
            have HE := Lib.hid (own_nil wr.heap.size wr (Nat.le_refl _))
            have HU := Lib.hid (hur.grown (grown_alloc wr (.cells #[] 3) none))
            have HC := Lib.hid (show ([] : List Int).length + used.length ≤ 2000000000 by have := Hum.out; simp; omega)
            have HB := Lib.hid (show wr.heap.size ≤ (wr.alloc (.cells #[] 3)).heap.size by simp)
            clear gk g1 hin hur
            go_wp2_with (at_builtin; refine app_ints rfl (.tmp 36) (.tmp 37) rfl HE.out HU.out rfl rfl HB.out HC.out ?_; intro v2 w2 o2 g2; rw [List.nil_append] at o2; refine Hid.out ?_)
            show wpList _ _ _ _ _ _
            have GA := Lib.hid (grown_own (grown_alloc wr (.cells #[] 3) none) HE.out g2 (Nat.le_refl _))
            have HE2 := Lib.hid (o2.grown (grown_alloc w2 (.cells #[.int .i64 k] 3) none))
            have HU2 := Lib.hid (one_int w2 k)
            have HC2 := Lib.hid (show used.length + [(k : Int)].length ≤ 2000000000 by have := Hum.out; simp; omega)
            have HB2 := Lib.hid (show wr.heap.size ≤ (w2.alloc (.cells #[.int .i64 k] 3)).heap.size by have := GA.out.size; simp; omega)
            clear o2 g2
            go_wp2_with (at_builtin; refine app_ints rfl (.tmp 38) (.tmp 40) rfl HE2.out HU2.out rfl rfl HB2.out HC2.out ?_; intro v3 w3 o3 g3)
            have GB := Lib.hid (grown_own (gAlloc GA.out (.cells #[.int .i64 k] 3)) HE2.out g3 (Nat.le_refl _))
            obtain ⟨ao3, cap3, rfl, i3, _⟩ := o3.shape
            have GC := Lib.hid (grown_trans hgr.out GB.out)
            have h3 := h.grown GC.out
            clear g3 o3
            go_wp2_with fail
            rw [ES.out]
            refine (IH.out _ _ _ _ _ h3 HL.out (by omega) i3 (by have := Hum.out; simp; omega)).mono ?_
            rintro e w4 ⟨rfl, g4⟩
            rw [← G1.out]
            have GD := Lib.hid (grown_trans GC.out g4)
            clear g4 i3
            go_wp2_with fail
            go_roundw
            case rel => exact ⟨k + 1, by omega, by go_num, by rw [sumTo]; go_num, GD⟩
            case measure => simp [intOf]; omega
      · have hkn : k = n := by omega
        subst hkn
        have fin : cnt rows k (d + 1) (fun x => pb ((x : Int) ∈ used)) = sumTo g k := by rw [cnt, HG.out]
        have Fin_ := Lib.hid fin
        clear fin
        go_wp2_with fail
        go_ret
        exact ⟨by rw [Fin_.out]; rfl, hgr.out⟩
end Go.Proofs.Ytilgcfgbfhmdcaa
