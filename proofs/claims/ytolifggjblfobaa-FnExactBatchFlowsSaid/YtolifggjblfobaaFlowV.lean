/- Valid flows: flowsValid, l32Flows. -/
import Derived.Test.YtolifggjblfobaaViewP
import Derived.Test.YtolifggjblfobaaInts
import Derived.WalkKit
import Derived.Lib.Hide
import Derived.Deep.QuietTactic
import Derived.BigQuiet
namespace Go.Proofs.Ytolifggjblfobaa
open Go.RowKit
def ValidPost (w : World) (fs : List F3) (e : Ending) (w' : World) : Prop := e = .returned (.bool (pb (FlowsP fs))) ∧ w.grownBy w' none
set_option maxHeartbeats 1000000 in
theorem flowsValid_any (w : World) (ao : Option Addr) (n cap : Nat) (fs : List F3) (h : FlowsAt w ao n cap fs) :
    Calls Try.prog 39 #[.slice ao n cap] w (ValidPost w fs) := by
  have H := Lib.hid h.len
  have hm := h.max
  have hnm := h.le
  by_cases h16 : (16 : Int) < n
  · have R := Lib.hid (show pb (FlowsP fs) = false from pb_false fun e => by have := e.1; have := H.out; omega)
    go_enter Try.func39, Try.ntmps39
    go_wp2
    go_ret
    exact ⟨by rw [R.out]; rfl, grown_refl _ _⟩
  · go_enter Try.func39, Try.ntmps39
    go_wp2
    go_loopw [4, 10] (fun u q wr => ∃ k : Nat, k ≤ n ∧ q = .int .i64 k ∧ Hid (∀ j, j < k → FlowP (fs.getD j f0)) ∧ Hid (w.grownBy wr none)) (fun _ q _ => n - (intOf q).toNat)
    case atStart => exact ⟨0, by omega, rfl, Lib.hid fun j hj => by omega, Lib.hid (grown_refl _ _)⟩
    case round =>
      obtain ⟨k, hk, rfl, hok, hg⟩ := hrel
      by_cases hlt : k < n
      · obtain ⟨b, off, rfl, hb, cx, cy, cz⟩ := (h.grown hg.out).at k hlt
        obtain ⟨f, hf⟩ : ∃ f, fs.getD k f0 = f := ⟨_, rfl⟩
        obtain ⟨x, y, z⟩ := f
        rw [hf] at cx cy cz
        have HX := Lib.hid hf
        have G1 := Lib.hid (gAlloc hg.out (.cells #[.int .i64 x, .int .i64 y, .int .i64 z] 28))
        clear hf hg
        by_cases hp : FlowP (x, y, z)
        · obtain ⟨q1, q2, q3⟩ := hp
          have I1 := Lib.hid (inB_iff.2 q1)
          have I2 := Lib.hid (inB_iff.2 q2)
          have I3 : ¬ z < 0 := by have : 0 ≤ z := q3; omega
          have NX : Hid (∀ j, j < k + 1 → FlowP (fs.getD j f0)) := Lib.hid fun j hj => by
            by_cases e : j = k
            · subst e; rw [HX.out]; exact ⟨q1, q2, q3⟩
            · exact hok.out j (by omega)
          clear hok q1 q2 q3
          go_wp2_with (go_at_call 53; refine (within_any _ _ _ _).mono ?_; rintro e w' ⟨rfl, rfl⟩; (first | rw [I1.out] | rw [I2.out]))
          go_roundw
          case rel => exact ⟨k + 1, by omega, by go_num, NX, G1⟩
          case measure => simp [intOf]; omega
        · have R := Lib.hid (show pb (FlowsP fs) = false from pb_false fun e => hp (by rw [← HX.out]; exact e.2 k (by rw [H.out]; exact hlt)))
          by_cases q1 : inB x (-1) 7 = true
          · have I1 := Lib.hid q1
            by_cases q2 : inB y (-1) 7 = true
            · have I2 := Lib.hid q2
              have I3 : z < 0 := by
                refine Classical.byContradiction fun e => hp ⟨inB_iff.1 q1, inB_iff.1 q2, ?_⟩
                show 0 ≤ z
                omega
              clear hok q1 q2 hp
              go_wp2_with (go_at_call 53; refine (within_any _ _ _ _).mono ?_; rintro e w' ⟨rfl, rfl⟩; (first | rw [I1.out] | rw [I2.out]))
              go_ret
              exact ⟨by rw [R.out]; rfl, G1.out⟩
            · have I2 := Lib.hid (show inB y (-1) 7 = false by simpa using q2)
              clear hok q1 q2 hp
              go_wp2_with (go_at_call 53; refine (within_any _ _ _ _).mono ?_; rintro e w' ⟨rfl, rfl⟩; (first | rw [I1.out] | rw [I2.out]))
              go_ret
              exact ⟨by rw [R.out]; rfl, G1.out⟩
          · have I1 := Lib.hid (show inB x (-1) 7 = false by simpa using q1)
            clear hok q1 hp
            go_wp2_with (go_at_call 53; refine (within_any _ _ _ _).mono ?_; rintro e w' ⟨rfl, rfl⟩; rw [I1.out])
            go_ret
            exact ⟨by rw [R.out]; rfl, G1.out⟩
      · have R := Lib.hid (show pb (FlowsP fs) = true from pb_true ⟨by have := H.out; omega, fun i hi => hok.out i (by rw [H.out] at hi; omega)⟩)
        go_wp2
        go_ret
        exact ⟨by rw [R.out]; rfl, hg.out⟩
set_option maxHeartbeats 1000000 in
theorem l32Flows_any (w : World) (ao : Option Addr) (n cap : Nat) (fs : List F3) (h : FlowsAt w ao n cap fs) :
    Calls Try.prog 41 #[.slice ao n cap] w fun e w' => e = .returned (.bool (pb (FlowsP fs))) ∧ w = w' := by
  have H := Lib.hid h.len
  have hm := h.max
  have hnm := h.le
  go_enter Try.func41, Try.ntmps41
  go_wp2
  go_loop [3] (fun q => ∃ k : Nat, k ≤ n ∧ q = .int .i64 k ∧ Hid (∀ j, j < k → FlowP (fs.getD j f0))) (fun q => n - (intOf q).toNat)
  case atStart => exact ⟨0, by omega, rfl, Lib.hid fun j hj => by omega⟩
  case round =>
    obtain ⟨k, hk, rfl, hok⟩ := hrel
    by_cases hlt : k < n
    · obtain ⟨b, off, rfl, hb, cx, cy, cz⟩ := h.at k hlt
      obtain ⟨f, hf⟩ : ∃ f, fs.getD k f0 = f := ⟨_, rfl⟩
      obtain ⟨x, y, z⟩ := f
      rw [hf] at cx cy cz
      have HX := Lib.hid hf
      clear hf
      by_cases hp : FlowP (x, y, z)
      · obtain ⟨q1, q2, q3⟩ := hp
        have I1 := Lib.hid (inB_iff.2 q1)
        have I2 := Lib.hid (inB_iff.2 q2)
        have I3 : ¬ z < 0 := by have : 0 ≤ z := q3; omega
        have NX : Hid (∀ j, j < k + 1 → FlowP (fs.getD j f0)) := Lib.hid fun j hj => by
          by_cases e : j = k
          · subst e; rw [HX.out]; exact ⟨q1, q2, q3⟩
          · exact hok.out j (by omega)
        clear hok q1 q2 q3
        go_wp2_with (go_at_call 52; refine (l6In_any _ _ _ _).mono ?_; rintro e w' ⟨rfl, rfl⟩; (first | rw [I1.out] | rw [I2.out]))
        go_round
        case rel => exact ⟨k + 1, by omega, by go_num, NX⟩
        case measure => simp [intOf]; omega
      · have R := Lib.hid (show pb (FlowsP fs) = false from pb_false fun e => hp (by rw [← HX.out]; exact e.2 k (by rw [H.out]; exact hlt)))
        by_cases q1 : inB x (-1) 7 = true
        · have I1 := Lib.hid q1
          by_cases q2 : inB y (-1) 7 = true
          · have I2 := Lib.hid q2
            have I3 : z < 0 := by
              refine Classical.byContradiction fun e => hp ⟨inB_iff.1 q1, inB_iff.1 q2, ?_⟩
              show 0 ≤ z
              omega
            clear hok q1 q2 hp
            go_wp2_with (go_at_call 52; refine (l6In_any _ _ _ _).mono ?_; rintro e w' ⟨rfl, rfl⟩; (first | rw [I1.out] | rw [I2.out]))
            go_ret
            exact ⟨by rw [R.out]; rfl, rfl⟩
          · have I2 := Lib.hid (show inB y (-1) 7 = false by simpa using q2)
            clear hok q1 q2 hp
            go_wp2_with (go_at_call 52; refine (l6In_any _ _ _ _).mono ?_; rintro e w' ⟨rfl, rfl⟩; (first | rw [I1.out] | rw [I2.out]))
            go_ret
            exact ⟨by rw [R.out]; rfl, rfl⟩
        · have I1 := Lib.hid (show inB x (-1) 7 = false by simpa using q1)
          clear hok q1 hp
          go_wp2_with (go_at_call 52; refine (l6In_any _ _ _ _).mono ?_; rintro e w' ⟨rfl, rfl⟩; rw [I1.out])
          go_ret
          exact ⟨by rw [R.out]; rfl, rfl⟩
    · have hkn : k = n := by omega
      by_cases h16 : (n : Int) ≤ 16
      · have R := Lib.hid (show pb (FlowsP fs) = true from pb_true ⟨by have := H.out; omega, fun i hi => hok.out i (by rw [H.out] at hi; omega)⟩)
        clear hkn
        go_wp2
        go_ret
        exact ⟨by rw [R.out]; rfl, rfl⟩
      · have R := Lib.hid (show pb (FlowsP fs) = false from pb_false fun e => by have := e.1; have := H.out; omega)
        clear hkn
        go_wp2
        go_ret
        exact ⟨by rw [R.out]; rfl, rfl⟩
end Go.Proofs.Ytolifggjblfobaa
