/- The reference's TicketAudit. -/
import Derived.Test.YtppkbmlbggokkaaSpent
import Derived.WalkKit
import Derived.Lib.Hide
import Derived.Deep.QuietTactic
import Derived.BigQuiet
namespace Go.Proofs.Ytppkbmlbggokkaa
open Go.RowKit
/-- the numbers of a that are in b -/
noncomputable def inBoth (a b : List Int) : List Int := a.filter fun x => pb (x ∈ b)
open Classical in
noncomputable def auditL (a b : List Int) : List Int := if SpentP a ∧ SpentP b then inBoth a b else []
theorem inBoth_take (a b : List Int) (k : Nat) (hk : k < a.length) : inBoth (a.take (k + 1)) b = inBoth (a.take k) b ++ if a.getD k 0 ∈ b then [a.getD k 0] else [] := by
  rw [List.take_succ_eq_append_getElem hk]
  unfold inBoth
  rw [List.filter_append]
  congr 1
  have e : a.getD k 0 = a[k] := by simp [List.getD_eq_getElem?_getD, List.getElem?_eq_getElem hk]
  rw [e]
  by_cases h : a[k] ∈ b
  · simp [h]
  · simp [h]
theorem inBoth_len (a b : List Int) (k : Nat) : (inBoth (a.take k) b).length ≤ k := by
  have h1 := List.length_filter_le (fun x => pb (x ∈ b)) (a.take k)
  have h2 : (a.take k).length ≤ k := by rw [List.length_take]; omega
  exact Nat.le_trans h1 h2
set_option maxHeartbeats 1000000 in
theorem ticketAuditS_any (w : World) (ao : Option Addr) (n cap : Nat) (xs : List Int) (bo : Option Addr) (m cap' : Nat) (ys : List Int) (h : IntsAt w ao n cap xs) (h' : IntsAt w bo m cap' ys) (hn : n ≤ 1000000000) :
    Calls Try.prog 20 #[.slice ao n cap, .slice bo m cap'] w (IntsPost w (auditL xs ys)) := by
  have hl := h.len
  have H := Lib.hid hl
  clear hl
  have o0 := Lib.hid (own_nil w.heap.size w (Nat.le_refl _))
  go_enter Try.func20, Try.ntmps20
  go_wp2
  go_loopw [5, 6] (fun v i wr => ∃ k : Nat, k ≤ n ∧ i = .int .i64 k ∧ Hid (w.grownBy wr none) ∧ Hid (OwnI w.heap.size wr v (inBoth (xs.take k) ys)) ∧ Hid (0 < k → SpentP xs ∧ SpentP ys)) (fun _ i _ => n - (intOf i).toNat)
  case atStart => exact ⟨0, Nat.zero_le _, rfl, grown_alloc _ _ _, o0, fun a => absurd a (by omega)⟩
  case round =>
    clear o0
    obtain ⟨k, hk, rfl, hg, ho, hv⟩ := hrel
    by_cases hlt : k < n
    · have a1 := h.grown hg.out
      have a2 := h'.grown hg.out
      go_wp2_with fail
      refine (l31Spent_any _ _ _ _ _ a1).mono ?_
      rintro e w1 ⟨rfl, d1⟩
      have g1 := drewN_grown d1 none
      clear d1
      cases p1 : pb (SpentP xs)
      · have hk0 : k = 0 := by
          by_cases e : 0 < k
          · exact absurd (hv.out e).1 (pb_not.1 p1)
          · omega
        subst hk0
        have hL : auditL xs ys = [] := if_neg fun q => pb_not.1 p1 q.1
        have HL := Lib.hid hL
        clear hL
        have o1 := ho.out.grown g1
        have O1 := Lib.hid o1
        clear o1
        go_wp2_with fail
        go_ret
        exact ints_post (by rw [HL.out]; exact O1.out) (grown_trans hg.out g1)
      · have P1 := Lib.hid (pb_iff.1 p1)
        go_wp2_with fail
        refine (l31Spent_any _ _ _ _ _ (a2.grown g1)).mono ?_
        rintro e w2 ⟨rfl, d2⟩
        have g2 := grown_trans g1 (drewN_grown d2 none)
        clear d2
        cases p2 : pb (SpentP ys)
        · have hk0 : k = 0 := by
            by_cases e : 0 < k
            · exact absurd (hv.out e).2 (pb_not.1 p2)
            · omega
          subst hk0
          have hL : auditL xs ys = [] := if_neg fun q => pb_not.1 p2 q.2
          have HL := Lib.hid hL
          clear hL
          have O1 := Lib.hid (ho.out.grown g2)
          go_wp2_with fail
          go_ret
          exact ints_post (by rw [HL.out]; exact O1.out) (grown_trans hg.out g2)
        · have P2 := Lib.hid (pb_iff.1 p2)
          obtain ⟨b, off, rfl, hb, hc⟩ := (a1.grown g2).addr (by omega)
          obtain ⟨z, hz⟩ : ∃ z, xs.getD k 0 = z := ⟨_, rfl⟩
          have cz := hc k hlt
          rw [hz] at cz
          have Hz := Lib.hid hz
          have step := inBoth_take xs ys k (by have := H.out; omega)
          rw [hz] at step
          clear hz hc
          have a3 := a2.grown g2
          go_wp2_with fail
          refine (l1Has_any _ _ _ _ _ _ a3).mono ?_
          rintro e w3 ⟨rfl, rfl⟩
          have Hg := Lib.hid (grown_trans hg.out g2)
          by_cases hin : z ∈ ys
          · rw [if_pos hin] at step
            have K := Lib.hid (pb_true hin)
            rw [K.out]
            have O2 := Lib.hid (ho.out.grown (gAlloc g2 (.cells #[.int .i64 z] 3)))
            have Y2 := Lib.hid (one_int w2 z)
            have HB := Lib.hid (show w.heap.size ≤ (w2.alloc (.cells #[.int .i64 z] 3)).heap.size by have := Hg.out.size; simp; omega)
            have L2 := Lib.hid (show (inBoth (xs.take k) ys).length + [z].length ≤ 2000000000 by have := inBoth_len xs ys k; simp; omega)
            have Hs := Lib.hid step
            clear step hin g2 g1 hg ho p1 p2 a1 a2 a3
            go_wp2_with (at_builtin; refine app_ints rfl (.tmp 28) (.tmp 33) rfl O2.out Y2.out rfl rfl HB.out L2.out ?_; intro v2 w4 o4 g4)
            have G5 := Lib.hid (grown_own (gAlloc Hg.out (.cells #[.int .i64 z] 3)) O2.out g4 (Nat.le_refl _))
            have O5 := Lib.hid (own_eq o4 Hs.out)
            clear o4 g4
            go_wp2
            go_roundw
            case rel => exact ⟨k + 1, by omega, by go_num, G5, O5, fun _ => ⟨P1.out, P2.out⟩⟩
            case measure => simp [intOf]; omega
          · rw [if_neg hin, List.append_nil] at step
            have K := Lib.hid (pb_false hin)
            rw [K.out]
            have O5 := Lib.hid (own_eq (ho.out.grown g2) step)
            clear step hin g2 g1 hg ho p1 p2 a1 a2 a3
            go_wp2_with fail
            go_roundw
            case rel => exact ⟨k + 1, by omega, by go_num, Hg, O5, fun _ => ⟨P1.out, P2.out⟩⟩
            case measure => simp [intOf]; omega
    · have hkn : k = n := by omega
      subst hkn
      have hL : auditL xs ys = inBoth (xs.take k) ys := by
        unfold auditL
        have hx := H.out
        rw [List.take_of_length_le (by omega)]
        by_cases h0 : 0 < k
        · exact if_pos (hv.out h0)
        · have : xs = [] := List.eq_nil_of_length_eq_zero (by omega)
          subst this
          split <;> rfl
      have HL := Lib.hid hL
      clear hL
      go_wp2_with fail
      go_ret
      exact ints_post (by rw [HL.out]; exact ho.out) hg.out
end Go.Proofs.Ytppkbmlbggokkaa
