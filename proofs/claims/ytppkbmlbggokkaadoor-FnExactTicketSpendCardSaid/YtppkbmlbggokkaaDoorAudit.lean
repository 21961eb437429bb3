/- The program's TicketAudit: the library's Index, Contains, IndexFunc, DeleteFunc at ints. -/
import Derived.Test.YtppkbmlbggokkaaDoorAuditS
import Derived.WalkKit
import Derived.Lib.Hide
import Derived.Deep.QuietTactic
import Derived.BigQuiet
import Derived.Lib.SliceRun
namespace Go.Proofs.YtppkbmlbggokkaaDoor
open Go.RowKit
set_option maxHeartbeats 1000000 in
theorem index_any (w : World) (ao : Option Addr) (n cap : Nat) (xs : List Int) (y : Int) (h : IntsAt w ao n cap xs) :
    Calls Tryd.prog 52 #[.slice ao n cap, .int .i64 y] w fun e w' => ∃ r : Int, e = .returned (.int .i64 r) ∧ decide (0 ≤ r) = pb (y ∈ xs) ∧ w = w' := by
  have hl := h.len
  have hm := RowAt.max h
  have hnm := RowAt.le h
  have H := Lib.hid hl
  clear hl
  go_enter Tryd.func52, Tryd.ntmps52
  go_wp2
  go_loop [8] (fun i => ∃ k : Nat, k ≤ n ∧ i = .int .i64 k ∧ Hid (∀ j, j < k → xs.getD j 0 ≠ y)) (fun i => n - (intOf i).toNat)
  case atStart => exact ⟨0, Nat.zero_le _, rfl, fun j hj => by omega⟩
  case round =>
    obtain ⟨k, hk, rfl, hok⟩ := hrel
    by_cases hlt : k < n
    · obtain ⟨b, off, rfl, hb, hc⟩ := h.addr (by omega)
      obtain ⟨z, hz⟩ : ∃ z, xs.getD k 0 = z := ⟨_, rfl⟩
      have cz := hc k hlt
      rw [hz] at cz
      have Hz := Lib.hid hz
      clear hz hc
      by_cases hzy : y = z
      · have hp : pb (y ∈ xs) = true := pb_true (by rw [hzy, ← Hz.out]; exact mem_getD (by have := H.out; omega))
        have Hp := Lib.hid hp
        have hzy' : (y == z) = true := by simpa using hzy
        clear hzy hp
        go_wp2
        go_ret
        exact ⟨_, rfl, by rw [Hp.out]; simp, rfl⟩
      · have hzy' : (y == z) = false := by simpa using hzy
        have Hzy := Lib.hid hzy
        clear hzy
        go_wp2
        go_round
        case rel => exact ⟨k + 1, by omega, by go_num, fun j hj => by
          by_cases e : j = k
          · subst e; rw [Hz.out]; exact fun e => Hzy.out e.symm
          · exact hok.out j (by omega)⟩
        case measure => simp [intOf]; omega
    · have hp : pb (y ∈ xs) = false := pb_false (not_mem_take fun j hj => hok.out j (by have := H.out; omega))
      have Hp := Lib.hid hp
      clear hp
      go_wp2
      go_ret
      exact ⟨_, rfl, by rw [Hp.out]; simp, rfl⟩
theorem contains_any (w : World) (ao : Option Addr) (n cap : Nat) (xs : List Int) (y : Int) (h : IntsAt w ao n cap xs) :
    Calls Tryd.prog 34 #[.slice ao n cap, .int .i64 y] w fun e w' => e = .returned (.bool (pb (y ∈ xs))) ∧ w = w' := by
  go_enter Tryd.func34, Tryd.ntmps34
  go_wp2_with fail
  refine (index_any _ _ _ _ _ _ h).mono ?_
  rintro e w1 ⟨r, rfl, hr, rfl⟩
  have Hr := Lib.hid hr
  clear hr
  go_wp2_with fail
  go_ret
  exact ⟨by rw [← Hr.out]; rfl, rfl⟩
theorem auditClosure_any (w : World) (bx : Nat) (bo : Option Addr) (m cap' : Nat) (ys : List Int) (z : Int) (h : IntsAt w bo m cap' ys) (hb : w.cell? ⟨bx, 0, none⟩ = some (.slice bo m cap')) :
    Calls Tryd.prog 33 #[.int .i64 z, .pointer (some ⟨bx, 0, none⟩)] w fun e w' => e = .returned (.bool (!pb (z ∈ ys))) ∧ w = w' := by
  go_enter Tryd.func33, Tryd.ntmps33
  go_wp2_with fail
  refine (contains_any _ _ _ _ _ _ h).mono ?_
  rintro e w1 ⟨rfl, rfl⟩
  go_wp2_with fail
  go_ret
  exact ⟨rfl, rfl⟩
set_option maxHeartbeats 1000000 in
/-- the first that is not in ys, or -1 -/
theorem indexFunc_any (w : World) (ao : Option Addr) (n cap : Nat) (xs : List Int) (h : IntsAt w ao n cap xs) (bx : Nat) (bo : Option Addr) (m cap' : Nat) (ys : List Int) (h' : IntsAt w bo m cap' ys) (hb : w.cell? ⟨bx, 0, none⟩ = some (.slice bo m cap')) :
    Calls Tryd.prog 51 #[.slice ao n cap, .func (.func 33) #[] #[.pointer (some ⟨bx, 0, none⟩)]] w fun e w' => w = w' ∧
      ((e = .returned (.int .i64 (-1)) ∧ ∀ j, j < n → xs.getD j 0 ∈ ys) ∨ ∃ k : Nat, k < n ∧ e = .returned (.int .i64 k) ∧ (∀ j, j < k → xs.getD j 0 ∈ ys) ∧ ¬ xs.getD k 0 ∈ ys) := by
  have hl := h.len
  have hm := RowAt.max h
  have hnm := RowAt.le h
  have H := Lib.hid hl
  have HB := Lib.hid hb
  clear hl hb
  go_enter Tryd.func51, Tryd.ntmps51
  go_wp2
  go_loop [8] (fun i => ∃ k : Nat, k ≤ n ∧ i = .int .i64 k ∧ Hid (∀ j, j < k → xs.getD j 0 ∈ ys)) (fun i => n - (intOf i).toNat)
  case atStart => exact ⟨0, Nat.zero_le _, rfl, fun j hj => by omega⟩
  case round =>
    obtain ⟨k, hk, rfl, hok⟩ := hrel
    by_cases hlt : k < n
    · obtain ⟨b, off, rfl, hb, hc⟩ := h.addr (by omega)
      obtain ⟨z, hz⟩ : ∃ z, xs.getD k 0 = z := ⟨_, rfl⟩
      have cz := hc k hlt
      rw [hz] at cz
      have Hz := Lib.hid hz
      clear hz hc
      go_wp2_with fail
      refine (auditClosure_any _ _ _ _ _ _ _ h' HB.out).mono ?_
      rintro e w1 ⟨rfl, rfl⟩
      by_cases hin : z ∈ ys
      · have K := Lib.hid (pb_true hin)
        rw [K.out]
        have Hin := Lib.hid hin
        clear hin
        go_wp2_with fail
        go_round
        case rel => exact ⟨k + 1, by omega, by go_num, fun j hj => by
          by_cases e : j = k
          · subst e; rw [Hz.out]; exact Hin.out
          · exact hok.out j (by omega)⟩
        case measure => simp [intOf]; omega
      · have K := Lib.hid (pb_false hin)
        rw [K.out]
        have Hin := Lib.hid hin
        clear hin
        go_wp2_with fail
        go_ret
        exact ⟨rfl, .inr ⟨k, hlt, rfl, hok.out, by rw [Hz.out]; exact Hin.out⟩⟩
    · go_wp2
      go_ret
      exact ⟨rfl, .inl ⟨rfl, fun j hj => hok.out j (by omega)⟩⟩
/- plain laws on the array while it is cut down -/
theorem cut_get (A M D : List Int) (i j : Nat) (hA : A.length = i) (hM : M.length = j - i) (hij : i ≤ j) : (A ++ M ++ D).getD j 0 = D.getD 0 0 := by
  simp only [List.getD_eq_getElem?_getD]
  rw [List.getElem?_append_right (by simp; omega)]
  simp
  congr 2
  omega
theorem cut_set (A M D : List Int) (i : Nat) (z : Int) (hA : A.length = i) (hM : 0 < M.length) : (A ++ M ++ D).set i z = (A ++ [z]) ++ M.drop 1 ++ D := by
  rw [List.append_assoc, List.set_append_right _ _ (by omega), hA, Nat.sub_self]
  obtain ⟨x, r, rfl⟩ := List.exists_cons_of_length_pos hM
  simp
theorem Own.setCells {e : TypeId} {B : Nat} {cap : Nat} {g n : Nat} : ∀ (vs : List Value) (o : Nat) (w : World) (cs : List Value), Own e B w (.slice (some ⟨g, 0, none⟩) n cap) cs → o + vs.length ≤ cs.length →
    Own e B (w.setCells g o vs) (.slice (some ⟨g, 0, none⟩) n cap) (cs.take o ++ vs ++ cs.drop (o + vs.length)) := by
  intro vs
  induction vs with
  | nil => intro o w cs h hl; simpa [World.setCells] using h
  | cons v r ih =>
    intro o w cs h hl
    simp only [List.length_cons] at hl
    obtain ⟨g', e1, _, _, _, _, _, hset⟩ := Own.at h (by omega)
    simp only [Option.some.injEq, Addr.mk.injEq, and_true] at e1
    subst e1
    have h2 := ih (o + 1) _ _ (hset o v) (by rw [List.length_set]; omega)
    have e2 : (cs.set o v).take (o + 1) ++ r ++ (cs.set o v).drop (o + 1 + r.length) = cs.take o ++ (v :: r) ++ cs.drop (o + (v :: r).length) := by
      rw [List.take_succ_eq_append_getElem (by rw [List.length_set]; omega), List.getElem_set_self, List.take_set_of_le (by omega), List.drop_set_of_lt (by omega)]
      simp
      congr 1
      omega
    rw [e2] at h2
    exact h2
theorem Own.pre {e : TypeId} {B : Nat} {w : World} {ao : Option Addr} {n cap : Nat} {cs : List Value} (h : Own e B w (.slice ao n cap) cs) (i : Nat) (hi : i ≤ cs.length) : Own e B w (.slice ao i cap) (cs.take i) := by
  have hl : (cs.take i).length = i := by simp; omega
  unfold Own
  rw [hl]
  refine ⟨by rw [hl]; omega, ?_⟩
  rcases h.2 with ⟨hx, h0⟩ | ⟨g, cap', cur, hv, hb, hg, hnc, hcm, hcs, htake⟩
  · simp only [Value.slice.injEq] at hx
    obtain ⟨rfl, rfl, rfl⟩ := hx
    exact .inl ⟨by rw [show i = 0 by omega], by omega⟩
  · simp only [Value.slice.injEq] at hv
    obtain ⟨rfl, rfl, rfl⟩ := hv
    refine .inr ⟨g, cap, cur, rfl, hb, hg, by omega, hcm, hcs, ?_⟩
    rw [← htake, List.take_take]
    congr 1
    omega
theorem grown_setCells (g : Nat) : ∀ (vs : List Value) (o : Nat) (w : World), w.grownBy (w.setCells g o vs) (some g) := by
  intro vs
  induction vs with
  | nil => intro o w; exact grown_refl _ _
  | cons v r ih => intro o w; exact grown_trans (grown_set w g o v) (ih (o + 1) _)
end Go.Proofs.YtppkbmlbggokkaaDoor
