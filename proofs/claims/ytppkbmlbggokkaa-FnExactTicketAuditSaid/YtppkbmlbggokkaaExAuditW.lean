/- The walks of FnAudit and FnExactTicketAudit. -/
import Derived.Test.YtppkbmlbggokkaaAuditI
import Derived.Test.YtppkbmlbggokkaaDrawS
import Derived.WalkKit
import Derived.Lib.Hide
import Derived.Deep.QuietTactic
import Derived.BigQuiet
namespace Go.Proofs.Ytppkbmlbggokkaa
open Go.RowKit
/- plain -/
theorem inBoth_spec (xs ys : List Int) (z : Int) : z ∈ inBoth xs ys ↔ z ∈ xs ∧ z ∈ ys := by
  unfold inBoth
  rw [List.mem_filter, pb_iff]
theorem spent_asc {xs : List Int} (h : SpentP xs) : ∀ i j, i < j → j < xs.length → xs.getD i 0 < xs.getD j 0 := by
  intro i j hij
  induction j with
  | zero => omega
  | succ j ih =>
    intro hj
    have h1 := (h.2 (j + 1) hj).2.2 (by omega)
    simp only [Nat.add_sub_cancel] at h1
    by_cases e : i = j
    · subst e; exact h1
    · have := ih (by omega) (by omega)
      omega
theorem spent_sorted {xs : List Int} (h : SpentP xs) : xs.Pairwise (· < ·) := by
  rw [List.pairwise_iff_getElem]
  intro i j hi hj hij
  have := spent_asc h i j hij hj
  simpa [List.getD_eq_getElem?_getD, List.getElem?_eq_getElem hi, List.getElem?_eq_getElem hj] using this
theorem audit_sorted (xs ys : List Int) : (auditL xs ys).Pairwise (· < ·) := by
  unfold auditL
  split
  · rename_i h
    exact (spent_sorted h.1).filter _
  · exact .nil
theorem audit_mem (xs ys : List Int) (z : Int) (h : z ∈ auditL xs ys) : z ∈ xs ∧ z ∈ ys := by
  unfold auditL at h
  split at h
  · exact (inBoth_spec xs ys z).1 h
  · cases h
theorem sorted_ext : ∀ (a b : List Int), a.Pairwise (· < ·) → b.Pairwise (· < ·) → (∀ z, z ∈ a ↔ z ∈ b) → a = b := by
  intro a
  induction a with
  | nil =>
    intro b _ _ h
    cases b with
    | nil => rfl
    | cons y b => exact absurd ((h y).2 (by simp)) (by simp)
  | cons x a ih =>
    intro b ha hb h
    cases b with
    | nil => exact absurd ((h x).1 (by simp)) (by simp)
    | cons y b =>
      rw [List.pairwise_cons] at ha hb
      have hxy : x = y := by
        have h1 := (h x).1 (by simp)
        have h2 := (h y).2 (by simp)
        simp only [List.mem_cons] at h1 h2
        rcases h1 with h1 | h1
        · exact h1
        · rcases h2 with h2 | h2
          · exact h2.symm
          · have := hb.1 x h1; have := ha.1 y h2; omega
      subst hxy
      congr 1
      refine ih b ha.2 hb.2 fun z => ?_
      have hz := h z
      simp only [List.mem_cons] at hz
      constructor
      · intro h1
        rcases hz.1 (.inr h1) with e | e
        · subst e; exact absurd (ha.1 z h1) (by omega)
        · exact e
      · intro h1
        rcases hz.2 (.inr h1) with e | e
        · subst e; exact absurd (hb.1 z h1) (by omega)
        · exact e
theorem audit_comm (xs ys : List Int) : auditL ys xs = auditL xs ys := by
  refine sorted_ext _ _ (audit_sorted _ _) (audit_sorted _ _) fun z => ?_
  unfold auditL
  by_cases h : SpentP xs ∧ SpentP ys
  · rw [if_pos h, if_pos h.symm, inBoth_spec, inBoth_spec]
    exact And.comm
  · rw [if_neg h, if_neg (fun q => h q.symm)]
theorem audit_length (xs ys : List Int) : (auditL xs ys).length ≤ 20 := by
  unfold auditL
  split
  · rename_i h
    exact Nat.le_trans (List.length_filter_le _ _) h.1.1
  · simp
set_option maxHeartbeats 2000000 in
theorem fnAudit_walk (ao : Option Addr) (n cap : Nat) (w : World) (h1 : CodeAt w ao n cap) :
    Calls Try.prog 8 #[.slice ao n cap] w fun e w' => e = .returned (.bool true) ∧ w.grownBy w' none := by
  by_cases a : (1048576 : Int) < n
  · go_enter Try.func8, Try.ntmps8
    go_wp2
    go_ret
    exact ⟨rfl, grown_refl _ _⟩
  · go_enter Try.func8, Try.ntmps8
    go_wp2_with fail
    refine (drawTicketAudit_any _ _ _ _ h1).mono ?_
    rintro e w1 ⟨xs, ys, a1, c1, a2, c2, lx, ly, rfl, ix, iy, bx, by_, g1⟩
    obtain ⟨L, hL⟩ : ∃ L, auditL xs ys = L := ⟨_, rfl⟩
    go_wp2_with fail
    refine (ticketAudit_any _ _ _ _ xs _ _ _ ys ix iy by_).mono ?_
    rintro e w2 ⟨a3, c3, rfl, o2, g2⟩
    rw [hL] at o2 ⊢
    have HL := Lib.hid hL
    obtain ⟨i2, _, b2⟩ := o2.ints
    have ix2 := ix.grown g2
    have iy2 := iy.grown g2
    clear hL o2
    go_wp2_with fail
    refine (ticketAuditS_any _ _ _ _ xs _ _ _ ys ix2 iy2 (by omega)).mono ?_
    rintro e w3 ⟨a4, c4, rfl, o3, g3⟩
    rw [HL.out] at o3 ⊢
    obtain ⟨i3, _, _⟩ := o3.ints
    have ix3 := ix2.grown g3
    have iy3 := iy2.grown g3
    have i23 := i2.grown g3
    have G3 := Lib.hid (grown_trans (grown_trans g1 g2) g3)
    have z2 := g2.size
    have z3 := g3.size
    clear o3 ix iy ix2 iy2 i2 g1 g2 g3
    go_wp2_with fail
    refine (sameInts_any _ _ _ _ L _ _ _ L i23 i3).mono ?_
    rintro e w4 ⟨rfl, d4⟩
    rw [pb_true (p := L = L) rfl]
    have g4 := drewN_grown d4 none
    have ix4 := ix3.grown g4
    have iy4 := iy3.grown g4
    have i4 := i23.grown g4
    have G4 := Lib.hid (grown_trans G3.out g4)
    have z4 := g4.size
    clear d4 g4 ix3 iy3 i23 i3
    have hLl : L.length ≤ 20 := by rw [← HL.out]; exact audit_length xs ys
    have hmem : ∀ k, k < L.length → L.getD k 0 ∈ xs ∧ L.getD k 0 ∈ ys := fun k hk => audit_mem xs ys _ (by rw [HL.out]; exact mem_getD hk)
    have hasc : ∀ k, 0 < k → k < L.length → L.getD (k - 1) 0 < L.getD k 0 := fun k h0 hk => by
      have := (List.pairwise_iff_getElem.1 (audit_sorted xs ys))
      rw [HL.out] at this
      have := this (k - 1) k (by omega) hk (by omega)
      simpa [List.getD_eq_getElem?_getD, List.getElem?_eq_getElem (l := L) (i := k) hk, List.getElem?_eq_getElem (l := L) (i := k - 1) (by omega)] using this
    have Hmem := Lib.hid hmem
    have Hasc := Lib.hid hasc
    have X4 := Lib.hid ix4
    have Y4 := Lib.hid iy4
    have L4 := Lib.hid i4
    clear hmem hasc ix4 iy4 i4
    go_wp2_with fail
    go_loopw [7] (fun i wr => ∃ k : Nat, k ≤ L.length ∧ i = .int .i64 k ∧ Hid (∃ m, wr = w4.drewN m)) (fun i _ => L.length - (intOf i).toNat)
    case atStart => exact ⟨0, Nat.zero_le _, rfl, 0, rfl⟩
    case round =>
      obtain ⟨k, hk, rfl, hd⟩ := hrel
      have gd := drewN_grown hd.out none
      by_cases hlt : k < L.length
      · obtain ⟨b, off, rfl, hb, hc⟩ := IntsAt.addr (L4.out.grown gd) (by omega)
        obtain ⟨z, hz⟩ : ∃ z, L.getD k 0 = z := ⟨_, rfl⟩
        obtain ⟨y, hy⟩ : ∃ y, L.getD (k - 1) 0 = y := ⟨_, rfl⟩
        have cz := hc k hlt
        have cy := hc (k - 1) (by omega)
        rw [hz] at cz
        rw [hy] at cy
        obtain ⟨mx, my⟩ := Hmem.out k hlt
        rw [hz] at mx my
        have hyz := Hasc.out k
        rw [hz, hy] at hyz
        have Hyz := Lib.hid (fun h0 => hyz h0 hlt)
        have Kx := Lib.hid (pb_true mx)
        have Ky := Lib.hid (pb_true my)
        have xr := X4.out.grown gd
        have yr := Y4.out.grown gd
        have i0 : (0 : Int) ≤ (k : Int) := by omega
        have i1 : (k : Int) < L.length := by omega
        clear hz hy hc mx my hyz gd
        by_cases h0 : 0 < k
        · have i2 : (0 : Int) < (k : Int) := by omega
          have i3 : (0 : Int) ≤ (k : Int) - 1 := by omega
          have i4 : (k : Int) - 1 < L.length := by omega
          have hyz' := Hyz.out h0
          have W1 := IntWalk.i64_in ((k : Int) - 1) (by omega)
          have W2 : ((k : Int) - 1).toNat = k - 1 := by omega
          go_wp2_with fail
          go_quiet (first | with_reducible exact quiet1 (hasInt_any _ _ _ _ xs z (xr.grown (grown_drewN _ _ _))) (congrArg Value.bool Kx.out) | with_reducible exact quiet1 (hasInt_any _ _ _ _ ys z (yr.grown (grown_drewN _ _ _))) (congrArg Value.bool Ky.out))
          clear W1 W2
          go_wp2
          go_roundw
          case rel => exact ⟨k + 1, by omega, by go_num, drewN_more hd _⟩
          case measure => simp [intOf]; omega
        · have i2 : decide ((0 : Int) < (k : Int)) = false := by simp; omega
          go_wp2_with fail
          go_quiet (first | with_reducible exact quiet1 (hasInt_any _ _ _ _ xs z (xr.grown (grown_drewN _ _ _))) (congrArg Value.bool Kx.out) | with_reducible exact quiet1 (hasInt_any _ _ _ _ ys z (yr.grown (grown_drewN _ _ _))) (congrArg Value.bool Ky.out))
          go_wp2
          go_roundw
          case rel => exact ⟨k + 1, by omega, by go_num, drewN_more hd _⟩
          case measure => simp [intOf]; omega
      · have G5 := Lib.hid (grown_trans G4.out gd)
        have zd := gd.size
        have xr := X4.out.grown gd
        have yr := Y4.out.grown gd
        have lr := L4.out.grown gd
        clear gd
        go_wp2_with fail
        refine (ticketAudit_any _ _ _ _ ys _ _ _ xs yr xr (fun a e => by have := bx a e; omega)).mono ?_
        rintro e w5 ⟨a6, c6, rfl, o6, g6⟩
        rw [audit_comm, HL.out] at o6 ⊢
        obtain ⟨i6, _, _⟩ := o6.ints
        have lr6 := lr.grown g6
        clear o6
        go_wp2_with fail
        refine (sameInts_any _ _ _ _ L _ _ _ L i6 lr6).mono ?_
        rintro e w7 ⟨rfl, d7⟩
        rw [pb_true (p := L = L) rfl]
        have g7 := drewN_grown d7 none
        clear d7
        go_wp2_with fail
        go_ret
        exact ⟨rfl, grown_trans (grown_trans G5.out g6) g7⟩
end Go.Proofs.Ytppkbmlbggokkaa
