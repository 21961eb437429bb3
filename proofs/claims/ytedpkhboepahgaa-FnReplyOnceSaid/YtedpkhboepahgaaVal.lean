/- Valid packets. -/
import Derived.Test.YtedpkhboepahgaaBlkI
import Derived.WalkKit
import Derived.Lib.Hide
import Derived.Deep.QuietTactic
import Derived.BigQuiet
namespace Go.Proofs.Ytedpkhboepahgaa
open Go.RowKit
/-- a packet is valid -/
noncomputable def vB (e : Int) (H : List Int) (t : Int) (B : List Int) : Bool := elB e && pb ((H.length : Int) = 9 ∧ ListP H) && pb ((B.length : Int) = 6 ∧ ListP B) && numB t
theorem vB_iff {e t : Int} {H B : List Int} : vB e H t B = true ↔ (1 ≤ e ∧ e ≤ 996) ∧ (ListP H ∧ H.length = 9) ∧ (ListP B ∧ B.length = 6) ∧ 0 ≤ t ∧ t ≤ 990 := by
  simp only [vB, Bool.and_eq_true, pb_iff, elB_iff, numB_iff]
  constructor
  · rintro ⟨⟨⟨a, b, c⟩, d, f⟩, g⟩
    exact ⟨a, ⟨c, by omega⟩, ⟨f, by omega⟩, g⟩
  · rintro ⟨a, ⟨c, b⟩, ⟨f, d⟩, g⟩
    exact ⟨⟨⟨a, by omega, c⟩, by omega, f⟩, g⟩
set_option maxHeartbeats 1000000 in
theorem packetValid_any (e t : Int) (w : World) (ha : Option Addr) (hn hc : Nat) (ba : Option Addr) (bn bc : Nat) (H B : List Int) (h : IntsAt w ha hn hc H) (h' : IntsAt w ba bn bc B) :
    Calls Try.prog 31 #[.agg #[.int .i64 e, .slice ha hn hc, .int .i64 t, .slice ba bn bc]] w fun q w' => q = .returned (.bool (vB e H t B)) ∧ w.grownBy w' none := by
  have G := Lib.hid (grown_alloc w (.cells #[.int .i64 e, .slice ha hn hc, .int .i64 t, .slice ba bn bc] 35) none)
  have I := Lib.hid (h.grown G.out)
  have J := Lib.hid (h'.grown G.out)
  have D := Lib.hid (heap_alloc_new w (.cells #[.int .i64 e, .slice ha hn hc, .int .i64 t, .slice ba bn bc] 35))
  have d0 := blkC D.out 0 rfl
  have d1 := blkC D.out 1 rfl
  have d2 := blkC D.out 2 rfl
  have d3 := blkC D.out 3 rfl
  have LH := Lib.hid h.len
  have LB := Lib.hid h'.len
  clear h h'
  obtain ⟨b1, k1⟩ : ∃ b, elB e = b := ⟨_, rfl⟩
  obtain ⟨b2, k2⟩ : ∃ b, pb ((H.length : Int) = 9 ∧ ListP H) = b := ⟨_, rfl⟩
  obtain ⟨b3, k3⟩ : ∃ b, pb ((B.length : Int) = 6 ∧ ListP B) = b := ⟨_, rfl⟩
  obtain ⟨b4, k4⟩ : ∃ b, numB t = b := ⟨_, rfl⟩
  have V := Lib.hid (show vB e H t B = (b1 && b2 && b3 && b4) by rw [vB, k1, k2, k3, k4])
  have K1 := Lib.hid k1
  have K2 := Lib.hid k2
  have K3 := Lib.hid k3
  have K4 := Lib.hid k4
  clear k1 k2 k3 k4
  cases b1 with
  | false =>
    go_enter Try.func31, Try.ntmps31
    go_wp2_with (first | (go_at_call 51; refine (isElement_any _ _).mono ?_; rintro q w' ⟨rfl, rfl⟩; rw [K1.out]) | (go_at_call 78; refine (isNumber_any _ _).mono ?_; rintro q w' ⟨rfl, rfl⟩; rw [K4.out]) | (go_at_call 59; with_reducible refine (listOf_any _ _ _ _ H 9 I.out).mono ?_; rintro q w' ⟨rfl, rfl⟩; rw [K2.out]) | (go_at_call 59; with_reducible refine (listOf_any _ _ _ _ B 6 J.out).mono ?_; rintro q w' ⟨rfl, rfl⟩; rw [K3.out]))
    go_ret
    exact ⟨by rw [V.out]; rfl, G.out⟩
  | true =>
    cases b2 with
    | false =>
      go_enter Try.func31, Try.ntmps31
      go_wp2_with (first | (go_at_call 51; refine (isElement_any _ _).mono ?_; rintro q w' ⟨rfl, rfl⟩; rw [K1.out]) | (go_at_call 78; refine (isNumber_any _ _).mono ?_; rintro q w' ⟨rfl, rfl⟩; rw [K4.out]) | (go_at_call 59; with_reducible refine (listOf_any _ _ _ _ H 9 I.out).mono ?_; rintro q w' ⟨rfl, rfl⟩; rw [K2.out]) | (go_at_call 59; with_reducible refine (listOf_any _ _ _ _ B 6 J.out).mono ?_; rintro q w' ⟨rfl, rfl⟩; rw [K3.out]))
      go_ret
      exact ⟨by rw [V.out]; rfl, G.out⟩
    | true =>
      cases b3 with
      | false =>
        go_enter Try.func31, Try.ntmps31
        go_wp2_with (first | (go_at_call 51; refine (isElement_any _ _).mono ?_; rintro q w' ⟨rfl, rfl⟩; rw [K1.out]) | (go_at_call 78; refine (isNumber_any _ _).mono ?_; rintro q w' ⟨rfl, rfl⟩; rw [K4.out]) | (go_at_call 59; with_reducible refine (listOf_any _ _ _ _ H 9 I.out).mono ?_; rintro q w' ⟨rfl, rfl⟩; rw [K2.out]) | (go_at_call 59; with_reducible refine (listOf_any _ _ _ _ B 6 J.out).mono ?_; rintro q w' ⟨rfl, rfl⟩; rw [K3.out]))
        go_ret
        exact ⟨by rw [V.out]; rfl, G.out⟩
      | true =>
        cases b4 with
        | false =>
          go_enter Try.func31, Try.ntmps31
          go_wp2_with (first | (go_at_call 51; refine (isElement_any _ _).mono ?_; rintro q w' ⟨rfl, rfl⟩; rw [K1.out]) | (go_at_call 78; refine (isNumber_any _ _).mono ?_; rintro q w' ⟨rfl, rfl⟩; rw [K4.out]) | (go_at_call 59; with_reducible refine (listOf_any _ _ _ _ H 9 I.out).mono ?_; rintro q w' ⟨rfl, rfl⟩; rw [K2.out]) | (go_at_call 59; with_reducible refine (listOf_any _ _ _ _ B 6 J.out).mono ?_; rintro q w' ⟨rfl, rfl⟩; rw [K3.out]))
          go_ret
          exact ⟨by rw [V.out]; rfl, G.out⟩
        | true =>
          go_enter Try.func31, Try.ntmps31
          go_wp2_with (first | (go_at_call 51; refine (isElement_any _ _).mono ?_; rintro q w' ⟨rfl, rfl⟩; rw [K1.out]) | (go_at_call 78; refine (isNumber_any _ _).mono ?_; rintro q w' ⟨rfl, rfl⟩; rw [K4.out]) | (go_at_call 59; with_reducible refine (listOf_any _ _ _ _ H 9 I.out).mono ?_; rintro q w' ⟨rfl, rfl⟩; rw [K2.out]) | (go_at_call 59; with_reducible refine (listOf_any _ _ _ _ B 6 J.out).mono ?_; rintro q w' ⟨rfl, rfl⟩; rw [K3.out]))
          go_ret
          exact ⟨by rw [V.out]; rfl, G.out⟩
set_option maxHeartbeats 1000000 in
theorem packetValidS_any (e t : Int) (w : World) (ha : Option Addr) (hn hc : Nat) (ba : Option Addr) (bn bc : Nat) (H B : List Int) (h : IntsAt w ha hn hc H) (h' : IntsAt w ba bn bc B) :
    Calls Try.prog 75 #[.agg #[.int .i64 e, .slice ha hn hc, .int .i64 t, .slice ba bn bc]] w fun q w' => q = .returned (.bool (vB e H t B)) ∧ w.grownBy w' none := by
  have G := Lib.hid (grown_alloc w (.cells #[.int .i64 e, .slice ha hn hc, .int .i64 t, .slice ba bn bc] 35) none)
  have I := Lib.hid (h.grown G.out)
  have J := Lib.hid (h'.grown G.out)
  have D := Lib.hid (heap_alloc_new w (.cells #[.int .i64 e, .slice ha hn hc, .int .i64 t, .slice ba bn bc] 35))
  have d0 := blkC D.out 0 rfl
  have d1 := blkC D.out 1 rfl
  have d2 := blkC D.out 2 rfl
  have d3 := blkC D.out 3 rfl
  have LH := Lib.hid h.len
  have LB := Lib.hid h'.len
  clear h h'
  obtain ⟨b1, k1⟩ : ∃ b, elB e = b := ⟨_, rfl⟩
  obtain ⟨b2, k2⟩ : ∃ b, pb (ListP H) = b := ⟨_, rfl⟩
  obtain ⟨b3, k3⟩ : ∃ b, ((hn : Int) == 9) = b := ⟨_, rfl⟩
  obtain ⟨b4, k4⟩ : ∃ b, inB t 0 990 = b := ⟨_, rfl⟩
  obtain ⟨b5, k5⟩ : ∃ b, pb (ListP B) = b := ⟨_, rfl⟩
  obtain ⟨b6, k6⟩ : ∃ b, ((bn : Int) == 6) = b := ⟨_, rfl⟩
  have V := Lib.hid (show vB e H t B = (b1 && b2 && b3 && b4 && b5 && b6) by
    subst k1 k2 k3 k4 k5 k6
    have := LH.out
    have := LB.out
    rw [Bool.eq_iff_iff]
    simp only [vB, numB, Bool.and_eq_true, pb_iff, elB_iff, inB_iff, beq_iff_eq]
    constructor
    · rintro ⟨⟨⟨a, b, c⟩, d, f⟩, g⟩
      exact ⟨⟨⟨⟨⟨a, c⟩, by omega⟩, g⟩, f⟩, by omega⟩
    · rintro ⟨⟨⟨⟨⟨a, c⟩, b⟩, g⟩, f⟩, d⟩
      exact ⟨⟨⟨a, by omega, c⟩, by omega, f⟩, g⟩)
  have K1 := Lib.hid k1
  have K2 := Lib.hid k2
  have K4 := Lib.hid k4
  have K5 := Lib.hid k5
  clear k1 k2 k4 k5
  cases b1 with
  | false =>
    go_enter Try.func75, Try.ntmps75
    go_wp2_with (first | (go_at_call 82; refine (l1Is_any _ _).mono ?_; rintro q w' ⟨rfl, rfl⟩; rw [K1.out]) | (go_at_call 74; refine (l6In_any _ _ _ _).mono ?_; rintro q w' ⟨rfl, rfl⟩; rw [K4.out]) | (go_at_call 69; with_reducible refine (l2List_any _ _ _ _ H I.out).mono ?_; rintro q w' ⟨rfl, rfl⟩; rw [K2.out]) | (go_at_call 69; with_reducible refine (l2List_any _ _ _ _ B J.out).mono ?_; rintro q w' ⟨rfl, rfl⟩; rw [K5.out]))
    go_ret
    exact ⟨by rw [V.out]; rfl, G.out⟩
  | true =>
    cases b2 with
    | false =>
      go_enter Try.func75, Try.ntmps75
      go_wp2_with (first | (go_at_call 82; refine (l1Is_any _ _).mono ?_; rintro q w' ⟨rfl, rfl⟩; rw [K1.out]) | (go_at_call 74; refine (l6In_any _ _ _ _).mono ?_; rintro q w' ⟨rfl, rfl⟩; rw [K4.out]) | (go_at_call 69; with_reducible refine (l2List_any _ _ _ _ H I.out).mono ?_; rintro q w' ⟨rfl, rfl⟩; rw [K2.out]) | (go_at_call 69; with_reducible refine (l2List_any _ _ _ _ B J.out).mono ?_; rintro q w' ⟨rfl, rfl⟩; rw [K5.out]))
      go_ret
      exact ⟨by rw [V.out]; rfl, G.out⟩
    | true =>
      cases b3 with
      | false =>
        go_enter Try.func75, Try.ntmps75
        go_wp2_with (first | (go_at_call 82; refine (l1Is_any _ _).mono ?_; rintro q w' ⟨rfl, rfl⟩; rw [K1.out]) | (go_at_call 74; refine (l6In_any _ _ _ _).mono ?_; rintro q w' ⟨rfl, rfl⟩; rw [K4.out]) | (go_at_call 69; with_reducible refine (l2List_any _ _ _ _ H I.out).mono ?_; rintro q w' ⟨rfl, rfl⟩; rw [K2.out]) | (go_at_call 69; with_reducible refine (l2List_any _ _ _ _ B J.out).mono ?_; rintro q w' ⟨rfl, rfl⟩; rw [K5.out]))
        go_ret
        exact ⟨by rw [V.out]; rfl, G.out⟩
      | true =>
        cases b4 with
        | false =>
          go_enter Try.func75, Try.ntmps75
          go_wp2_with (first | (go_at_call 82; refine (l1Is_any _ _).mono ?_; rintro q w' ⟨rfl, rfl⟩; rw [K1.out]) | (go_at_call 74; refine (l6In_any _ _ _ _).mono ?_; rintro q w' ⟨rfl, rfl⟩; rw [K4.out]) | (go_at_call 69; with_reducible refine (l2List_any _ _ _ _ H I.out).mono ?_; rintro q w' ⟨rfl, rfl⟩; rw [K2.out]) | (go_at_call 69; with_reducible refine (l2List_any _ _ _ _ B J.out).mono ?_; rintro q w' ⟨rfl, rfl⟩; rw [K5.out]))
          go_ret
          exact ⟨by rw [V.out]; rfl, G.out⟩
        | true =>
          cases b5 with
          | false =>
            go_enter Try.func75, Try.ntmps75
            go_wp2_with (first | (go_at_call 82; refine (l1Is_any _ _).mono ?_; rintro q w' ⟨rfl, rfl⟩; rw [K1.out]) | (go_at_call 74; refine (l6In_any _ _ _ _).mono ?_; rintro q w' ⟨rfl, rfl⟩; rw [K4.out]) | (go_at_call 69; with_reducible refine (l2List_any _ _ _ _ H I.out).mono ?_; rintro q w' ⟨rfl, rfl⟩; rw [K2.out]) | (go_at_call 69; with_reducible refine (l2List_any _ _ _ _ B J.out).mono ?_; rintro q w' ⟨rfl, rfl⟩; rw [K5.out]))
            go_ret
            exact ⟨by rw [V.out]; rfl, G.out⟩
          | true =>
            cases b6 with
            | false =>
              go_enter Try.func75, Try.ntmps75
              go_wp2_with (first | (go_at_call 82; refine (l1Is_any _ _).mono ?_; rintro q w' ⟨rfl, rfl⟩; rw [K1.out]) | (go_at_call 74; refine (l6In_any _ _ _ _).mono ?_; rintro q w' ⟨rfl, rfl⟩; rw [K4.out]) | (go_at_call 69; with_reducible refine (l2List_any _ _ _ _ H I.out).mono ?_; rintro q w' ⟨rfl, rfl⟩; rw [K2.out]) | (go_at_call 69; with_reducible refine (l2List_any _ _ _ _ B J.out).mono ?_; rintro q w' ⟨rfl, rfl⟩; rw [K5.out]))
              go_ret
              exact ⟨by rw [V.out]; rfl, G.out⟩
            | true =>
              go_enter Try.func75, Try.ntmps75
              go_wp2_with (first | (go_at_call 82; refine (l1Is_any _ _).mono ?_; rintro q w' ⟨rfl, rfl⟩; rw [K1.out]) | (go_at_call 74; refine (l6In_any _ _ _ _).mono ?_; rintro q w' ⟨rfl, rfl⟩; rw [K4.out]) | (go_at_call 69; with_reducible refine (l2List_any _ _ _ _ H I.out).mono ?_; rintro q w' ⟨rfl, rfl⟩; rw [K2.out]) | (go_at_call 69; with_reducible refine (l2List_any _ _ _ _ B J.out).mono ?_; rintro q w' ⟨rfl, rfl⟩; rw [K5.out]))
              go_ret
              exact ⟨by rw [V.out]; rfl, G.out⟩
end Go.Proofs.Ytedpkhboepahgaa
