/- The library's DeleteFunc at the audit's closure, and the program's TicketAudit. -/
import Derived.Test.YtppkbmlbggokkaaDoorAudit
import Derived.WalkKit
import Derived.Lib.Hide
import Derived.Deep.QuietTactic
import Derived.BigQuiet
namespace Go.Proofs.YtppkbmlbggokkaaDoor
open Go.RowKit
theorem inBoth_all (xs ys : List Int) : ∀ k, k ≤ xs.length → (∀ j, j < k → xs.getD j 0 ∈ ys) → inBoth (xs.take k) ys = xs.take k := by
  intro k
  induction k with
  | zero => intro _ _; simp [inBoth]
  | succ k ih =>
    intro hk h
    rw [inBoth_take xs ys k (by omega), ih (by omega) (fun j hj => h j (by omega)), if_pos (h k (by omega)), List.take_succ_eq_append_getElem (by omega)]
    simp [List.getD_eq_getElem?_getD, List.getElem?_eq_getElem (l := xs) (i := k) (by omega)]
theorem inBoth_first (xs ys : List Int) (k : Nat) (hk : k < xs.length) (h : ∀ j, j < k → xs.getD j 0 ∈ ys) (hn : ¬ xs.getD k 0 ∈ ys) : inBoth (xs.take (k + 1)) ys = xs.take k := by
  rw [inBoth_take xs ys k hk, inBoth_all xs ys k (by omega) h, if_neg hn, List.append_nil]
/-- a closure's slice, in a world that has grown at g alone -/
def DelPost (B : Nat) (w : World) (ao : Option Addr) (n cap : Nat) (L : List Int) (e : Ending) (w' : World) : Prop :=
  e = .returned (.slice ao L.length cap) ∧ OwnI B w' (.slice ao L.length cap) L ∧ w.grownBy w' (Value.ownBlock (.slice ao n cap))
set_option maxHeartbeats 2000000 in
theorem deleteFunc_any (B : Nat) (w : World) (ao : Option Addr) (n cap : Nat) (xs : List Int) (ho : OwnI B w (.slice ao n cap) xs) (hl : xs.length = n) (hn : n ≤ 1000000000) (hcap : cap ≤ 9223372036854775807) (hnc : n ≤ cap)
    (bx : Nat) (bo : Option Addr) (m cap' : Nat) (ys : List Int) (h' : IntsAt w bo m cap' ys) (hb : w.cell? ⟨bx, 0, none⟩ = some (.slice bo m cap')) (hbx : bx < B) (hbo : ∀ a, bo = some a → a.block < B) :
    Calls Tryd.prog 31 #[.slice ao n cap, .func (.func 33) #[] #[.pointer (some ⟨bx, 0, none⟩)]] w (DelPost B w ao n cap (inBoth xs ys)) := by
  have hi : IntsAt w ao n cap xs := by
    obtain ⟨ao', cap'', e, hi, _⟩ := ho.shape
    simp only [Value.slice.injEq] at e
    obtain ⟨rfl, rfl, rfl⟩ := e
    exact hi
  have H := Lib.hid hl
  have HB := Lib.hid hb
  have Ho := Lib.hid ho
  clear hl hb ho
  go_enter Tryd.func31, Tryd.ntmps31
  go_wp2_with fail
  refine (indexFunc_any _ _ _ _ _ hi _ _ _ _ _ h' HB.out).mono ?_
  rintro e w1 ⟨rfl, ⟨rfl, hall⟩ | ⟨k, hk, rfl, hall, hnot⟩⟩
  · have he : inBoth xs ys = xs := by
      have := inBoth_all xs ys n (by rw [H.out]; exact Nat.le_refl _) hall
      rwa [List.take_of_length_le (by rw [H.out]; exact Nat.le_refl _)] at this
    have He := Lib.hid he
    clear he hall
    go_wp2_with fail
    go_ret
    exact ⟨by rw [He.out, H.out]; rfl, by rw [He.out, H.out]; exact Ho.out, grown_refl _ _⟩
  · obtain ⟨g, rfl, e2, hBg, hgl, _, _, _⟩ := OwnI.at Ho.out (by have := H.out; omega)
    clear e2
    have s0 : OwnI B w (.slice (some ⟨g, 0, none⟩) n cap) (inBoth (xs.take (k + 1)) ys ++ [xs.getD k 0] ++ xs.drop (k + 1)) := by
      rw [inBoth_first xs ys k (by rw [H.out]; exact hk) hall hnot]
      have : xs.take k ++ [xs.getD k 0] ++ xs.drop (k + 1) = xs := by
        have hx := H.out
        have e : xs.getD k 0 = xs[k] := by simp [List.getD_eq_getElem?_getD, List.getElem?_eq_getElem (l := xs) (i := k) (by omega)]
        rw [e, ← List.take_succ_eq_append_getElem, List.take_append_drop]
      rw [this]
      exact Ho.out
    have l0 : (inBoth (xs.take (k + 1)) ys).length = k := by
      rw [inBoth_first xs ys k (by rw [H.out]; exact hk) hall hnot]
      have hx := H.out
      simp; omega
    have S0 := Lib.hid s0
    have L0 := Lib.hid l0
    have hk0 : ((k : Int) == -1) = false := by simp
    clear s0 l0 hall hnot Ho
    go_wp2_with fail
    go_loopw [5, 6] (fun i q wr => ∃ j : Nat, ∃ M : List Int, j ≤ n ∧ q = .int .i64 j ∧ i = .int .i64 ((inBoth (xs.take j) ys).length : Nat) ∧ Hid ((inBoth (xs.take j) ys).length < j ∧ M.length = j - (inBoth (xs.take j) ys).length) ∧ Hid (w.grownBy wr (some g)) ∧ Hid (OwnI B wr (.slice (some ⟨g, 0, none⟩) n cap) (inBoth (xs.take j) ys ++ M ++ xs.drop j))) (fun _ q _ => n - (intOf q).toNat)
    case atStart => exact ⟨k + 1, [xs.getD k 0], by omega, by go_num, by rw [L0.out], ⟨by rw [L0.out]; omega, by rw [L0.out]; simp⟩, grown_refl _ _, S0⟩
    case round =>
      clear S0 L0
      obtain ⟨j, M, hj, rfl, rfl, hM, hg, hS⟩ := hrel
      obtain ⟨A, hA⟩ : ∃ A, inBoth (xs.take j) ys = A := ⟨_, rfl⟩
      rw [hA] at hM hS ⊢
      have hM1 := hM.out.1
      have hM2 := hM.out.2
      have hMpos : 0 < M.length := by omega
      by_cases hlt : j < n
      · obtain ⟨g', e1, e2, _, hgl2, hc2, hf2, hset⟩ := OwnI.at hS.out (by simp; omega)
        simp only [Option.some.injEq, Addr.mk.injEq, and_true] at e1
        subst e1
        clear e2
        have hlen : (A ++ M ++ xs.drop j).length = n := by have := H.out; simp; omega
        obtain ⟨z, hz⟩ : ∃ z, xs.getD j 0 = z := ⟨_, rfl⟩
        have cz := hc2 j (by omega)
        rw [cut_get A M (xs.drop j) A.length j rfl hM2 (by omega)] at cz
        have ez : (xs.drop j).getD 0 0 = z := by rw [← hz]; simp [List.getD_eq_getElem?_getD]
        rw [ez] at cz
        have step := inBoth_take xs ys j (by have := H.out; omega)
        rw [hz, hA] at step
        have hy1 : IntsAt wr bo m cap' ys := RowAt.row h' hg.out (fun a e => by have := hbo a e; simp only [ne_eq, Option.some.injEq]; omega)
        have hb1 : wr.cell? ⟨bx, 0, none⟩ = some (.slice bo m cap') := hg.out.cell HB.out (by simp; omega)
        have HB1 := Lib.hid hb1
        have HA := Lib.hid hA
        have Hz := Lib.hid hz
        have HM := Lib.hid hM2
        clear hb1 hA hz ez hM2
        have ci := hc2 A.length (by omega)
        obtain ⟨y, hy⟩ : ∃ y, (A ++ M ++ xs.drop j).getD A.length 0 = y := ⟨_, rfl⟩
        rw [hy] at ci
        have fi := hf2 A.length
        have hst := hset A.length z
        rw [cut_set A M (xs.drop j) A.length z rfl hMpos] at hst
        have Hst := Lib.hid hst
        have Gst := Lib.hid (grown_trans hg.out (grown_set wr g A.length (.int .i64 z)))
        have Hst0 := Lib.hid step
        have HL := Lib.hid hlen
        have hdrop : xs.drop j = z :: xs.drop (j + 1) := by
          have hx := H.out
          rw [List.drop_eq_getElem_cons (by omega)]
          congr 1
          rw [← Hz.out]
          simp [List.getD_eq_getElem?_getD, List.getElem?_eq_getElem (l := xs) (i := j) (by omega)]
        have Hd := Lib.hid hdrop
        clear hst step hy hc2 hf2 hset hlen hdrop hgl2
        go_wp2_with fail
        refine (auditClosure_any _ _ _ _ _ _ _ hy1 HB1.out).mono ?_
        rintro e w2 ⟨rfl, rfl⟩
        by_cases hin : z ∈ ys
        · have K := Lib.hid (pb_true hin)
          rw [K.out]
          have step := Hst0.out
          rw [if_pos hin] at step
          have S2 : OwnI B (wr.setCell ⟨g, A.length, none⟩ (.int .i64 z)) (.slice (some ⟨g, 0, none⟩) n cap) (inBoth (xs.take (j + 1)) ys ++ (M.drop 1 ++ [z]) ++ xs.drop (j + 1)) := by
            rw [step]
            have := Hst.out
            rw [Hd.out] at this
            simpa using this
          have HS2 := Lib.hid S2
          have L2 : (inBoth (xs.take (j + 1)) ys).length = A.length + 1 := by rw [step]; simp
          have HL2 := Lib.hid L2
          clear S2 L2 step hin
          go_wp2_with fail
          go_roundw
          case rel => exact ⟨j + 1, M.drop 1 ++ [z], by omega, by go_num, by rw [HL2.out]; go_num, ⟨by rw [HL2.out]; omega, by rw [HL2.out]; have := HM.out; simp; omega⟩, Gst, HS2⟩
          case measure => simp [intOf]; omega
        · have K := Lib.hid (pb_false hin)
          rw [K.out]
          have step := Hst0.out
          rw [if_neg hin, List.append_nil] at step
          have S2 : OwnI B wr (.slice (some ⟨g, 0, none⟩) n cap) (inBoth (xs.take (j + 1)) ys ++ (M ++ [z]) ++ xs.drop (j + 1)) := by
            rw [step]
            have := hS.out
            rw [Hd.out] at this
            simpa using this
          have HS2 := Lib.hid S2
          have HL2 := Lib.hid (congrArg List.length step)
          clear S2 step hin
          go_wp2_with fail
          go_roundw
          case rel => exact ⟨j + 1, M ++ [z], by omega, by go_num, by rw [HL2.out], ⟨by rw [HL2.out]; omega, by rw [HL2.out]; have := HM.out; simp; omega⟩, hg, HS2⟩
          case measure => simp [intOf]; omega
      · have hjn : j = n := by omega
        subst hjn
        have hx := H.out
        have hlen : (A ++ M ++ xs.drop j).length = j := by simp; omega
        have eA : inBoth xs ys = A := by rw [← hA, List.take_of_length_le (by omega)]
        obtain ⟨g', e1, e2, _, hgl2, hc2, hf2, hset⟩ := OwnI.at hS.out (by omega)
        simp only [Option.some.injEq, Addr.mk.injEq, and_true] at e1
        subst e1
        have hcl := fun ty => Lib.run_clear_slice (P := Tryd.prog) wr 23 3 ty (.int .i64 0) Tryd.underlying23 (fun w => by kernel_rfl) rfl rfl g A.length (j - A.length) (cap - A.length) (by omega) (fun t ht => by rw [hc2 (A.length + t) (by omega)]; rfl) (fun t ht => hf2 (A.length + t))
        have S3 := Own.setCells (List.replicate (j - A.length) (Value.int .i64 0)) A.length wr _ hS.out (by simp at hlen ⊢; omega)
        have S4 := Own.pre S3 A.length (by simp)
        have e4 : (List.take A.length ((A ++ M ++ xs.drop j).map (Value.int .i64)) ++ List.replicate (j - A.length) (Value.int .i64 0) ++ List.drop (A.length + (List.replicate (j - A.length) (Value.int .i64 0)).length) ((A ++ M ++ xs.drop j).map (Value.int .i64))).take A.length = A.map (Value.int .i64) := by
          simp
        rw [e4] at S4
        have HS4 := Lib.hid S4
        have G4 := Lib.hid (grown_trans hg.out (grown_setCells g (List.replicate (j - A.length) (Value.int .i64 0)) A.length wr))
        have HeA := Lib.hid eA
        have hac : (A.length : Int) ≤ j := by omega
        have hacc : A.length < cap := by omega
        clear e2 hc2 hf2 hset S3 S4 e4 eA hA hlen hx hgl2
        go_wp2_with fail
        go_ret
        exact ⟨by rw [HeA.out]; rfl, by rw [HeA.out]; exact HS4.out, G4⟩
set_option maxHeartbeats 1000000 in
theorem ticketAudit_any (w : World) (ao : Option Addr) (n cap : Nat) (xs : List Int) (bo : Option Addr) (m cap' : Nat) (ys : List Int) (h : IntsAt w ao n cap xs) (h' : IntsAt w bo m cap' ys) (hbo : ∀ a, bo = some a → a.block < w.heap.size) :
    Calls Tryd.prog 15 #[.slice ao n cap, .slice bo m cap'] w (IntsPost w (auditL xs ys)) := by
  have hl := h.len
  have a1 := h.grown (grown_alloc w (.cells #[.slice bo m cap'] 23) none)
  have a2 := h'.grown (grown_alloc w (.cells #[.slice bo m cap'] 23) none)
  have hB := heap_alloc_new w (.cells #[.slice bo m cap'] 23)
  have G0 := Lib.hid (grown_alloc w (.cells #[.slice bo m cap'] 23) none)
  have H := Lib.hid hl
  clear hl
  go_enter Tryd.func15, Tryd.ntmps15
  go_wp2_with fail
  refine (isSpent_any _ _ _ _ _ a1).mono ?_
  rintro e w1 ⟨rfl, rfl⟩
  cases p1 : pb (SpentP xs)
  · have hL : auditL xs ys = [] := if_neg fun q => pb_not.1 p1 q.1
    have HL := Lib.hid hL
    clear hL p1
    go_wp2_with fail
    go_ret
    exact ⟨none, 0, by rw [HL.out]; rfl, by rw [HL.out]; exact World.ownsRow_nil _ _ _ _, G0.out⟩
  · have P1 := Lib.hid (pb_iff.1 p1)
    clear p1
    go_wp2_with fail
    refine (isSpent_any _ _ _ _ _ a2).mono ?_
    rintro e w2 ⟨rfl, rfl⟩
    cases p2 : pb (SpentP ys)
    · have hL : auditL xs ys = [] := if_neg fun q => pb_not.1 p2 q.2
      have HL := Lib.hid hL
      clear hL p2
      go_wp2_with fail
      go_ret
      exact ⟨none, 0, by rw [HL.out]; rfl, by rw [HL.out]; exact World.ownsRow_nil _ _ _ _, G0.out⟩
    · have hL : auditL xs ys = inBoth xs ys := if_pos ⟨P1.out, pb_iff.1 p2⟩
      have HL := Lib.hid hL
      have hx : n ≤ 20 := by have := P1.out.1; have := H.out; omega
      clear hL p2
      go_wp2_with fail
      refine (clone_any _ _ _ _ _ a1 (by omega)).mono ?_
      rintro e w3 ⟨ao3, cap3, rfl, o3, g3⟩
      have hB3 := blkC (blkK g3 hB (by simp)) 0 rfl
      have z3 := g3.size
      obtain ⟨ao4, cap4, e4, i3, _⟩ := o3.shape
      simp only [Value.slice.injEq] at e4
      obtain ⟨rfl, _, rfl⟩ := e4
      have hc := RowAt.max i3
      have hlc := RowAt.le i3
      have hx' : xs.length ≤ 20 := by have := H.out; omega
      have a3 := a2.grown g3
      have O3 := Lib.hid o3
      have G3 := Lib.hid (grown_trans G0.out g3)
      have hsz : (w.alloc (.cells #[.slice bo m cap'] 23)).heap.size = w.heap.size + 1 := by simp
      have HZ := Lib.hid hsz
      clear hsz o3 g3 i3 hB
      go_wp2_with fail
      refine (deleteFunc_any _ _ _ _ _ xs O3.out rfl (by omega) hc hlc w.heap.size bo m cap' ys a3 hB3 (by rw [HZ.out]; omega) (fun a e => by have := hbo a e; rw [HZ.out]; omega)).mono ?_
      rintro e w4 ⟨rfl, o4, g4⟩
      go_wp2_with fail
      go_ret
      refine ⟨_, _, by rw [HL.out]; rfl, by rw [HL.out]; exact Own.lower o4 (by rw [HZ.out]; omega), grown_own G3.out O3.out g4 (by rw [HZ.out]; omega)⟩
end Go.Proofs.YtppkbmlbggokkaaDoor
