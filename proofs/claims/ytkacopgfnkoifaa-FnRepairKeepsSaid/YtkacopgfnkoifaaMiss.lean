/- missing, l23Missing, combined. -/
import Derived.Test.YtkacopgfnkoifaaMissP
import Derived.Test.YtkacopgfnkoifaaLrows
import Derived.WalkKit
import Derived.Lib.Hide
import Derived.Deep.QuietTactic
import Derived.BigQuiet
namespace Go.Proofs.Ytkacopgfnkoifaa
open Go.RowKit
def MissPost (w : World) (rows : List (List Int)) (e : Ending) (w' : World) : Prop :=
  ((PiecesP rows ∧ e = .returned (.tuple #[.int .i64 (emptN rows rows.length), .int .i64 (emptA rows rows.length), .bool true])) ∨ (¬ PiecesP rows ∧ e = .returned (.tuple #[.int .i64 0, .int .i64 (-1), .bool false]))) ∧ w = w'
theorem piece_pb {r : List Int} (h : OneP r) : pb ((r.length : Int) = 3 ∧ ListP r) = true := pb_true ⟨by rw [h.1]; rfl, h.2⟩
theorem piece_pb_no {r : List Int} (h : ¬ OneP r) : pb ((r.length : Int) = 3 ∧ ListP r) = false := pb_false fun e => h ⟨by have := e.1; omega, e.2⟩
set_option maxHeartbeats 1000000 in
theorem missing_any (w : World) (ao : Option Addr) (n cap : Nat) (rows : List (List Int)) (h : RowsAt w ao n cap rows) :
    Calls Try.prog 47 #[.slice ao n cap] w (MissPost w rows) := by
  have H := Lib.hid h.len
  by_cases h15 : 1 ≤ n ∧ n ≤ 5
  case neg =>
    have hb := Lib.hid (show inB (n : Int) 1 5 = false from inB_false.2 (by omega))
    have NP := Lib.hid (show ¬ PiecesP rows from fun e => h15 (by have := e.1; have := H.out; omega))
    clear h15
    go_enter Try.func47, Try.ntmps47
    go_wp2_with (go_at_call 59; refine (within_any _ _ _ _).mono ?_; rintro e w' ⟨rfl, rfl⟩; rw [hb.out])
    go_ret3
    exact ⟨.inr ⟨NP.out, rfl⟩, rfl⟩
  case pos =>
    have hb := Lib.hid (show inB (n : Int) 1 5 = true from inB_true (by omega) (by omega))
    go_enter Try.func47, Try.ntmps47
    go_wp2_with (go_at_call 59; refine (within_any _ _ _ _).mono ?_; rintro e w' ⟨rfl, rfl⟩; rw [hb.out])
    go_loop [5, 6, 7, 8, 15] (fun c a u v q => ∃ (k E : Nat) (A : Int), k ≤ n ∧ E ≤ k ∧ q = .int .i64 k ∧ c = .int .i64 E ∧ a = .int .i64 A ∧ Hid (E = emptN rows k ∧ A = emptA rows k ∧ ∀ j, j < k → (rows.getD j []).length = 0 ∨ OneP (rows.getD j []))) (fun _ _ _ _ q => n - (intOf q).toNat)
    case atStart => exact ⟨0, 0, -1, by omega, by omega, rfl, rfl, rfl, Lib.hid ⟨rfl, rfl, fun j hj => by omega⟩⟩
    case round =>
      obtain ⟨k, E, A, hk, hE, rfl, rfl, rfl, hok⟩ := hrel
      by_cases hlt : k < n
      · obtain ⟨b, off, ro, rc, rfl, cc, hr⟩ := h.at k hlt
        obtain ⟨row, hrow⟩ : ∃ row, rows.getD k [] = row := ⟨_, rfl⟩
        obtain ⟨l, hl⟩ : ∃ l, row.length = l := ⟨_, rfl⟩
        rw [hrow, hl] at cc hr
        have HR := Lib.hid hr
        have Hrow := Lib.hid hrow
        have Hl := Lib.hid hl
        clear hr hrow hl
        by_cases hl0 : l = 0
        · subst hl0
          have NX : Hid (E + 1 = emptN rows (k + 1) ∧ (k : Int) = emptA rows (k + 1) ∧ ∀ j, j < k + 1 → (rows.getD j []).length = 0 ∨ OneP (rows.getD j [])) := by
            have e0 : (rows.getD k []).length = 0 := by rw [Hrow.out, Hl.out]
            refine ⟨by rw [emptN_yes e0, ← hok.out.1], (emptA_yes e0).symm, fun j hj => ?_⟩
            by_cases e : j = k
            · subst e; exact .inl e0
            · exact hok.out.2.2 j (by omega)
          clear hok
          go_wp2
          go_round
          case rel => exact ⟨k + 1, E + 1, k, by omega, by omega, by go_num, by go_num, rfl, NX⟩
          case measure => simp [intOf]; omega
        · have hl1 : ((l : Int) == 0) = false := by simp; omega
          by_cases hp : OneP row
          · have NX : Hid (E = emptN rows (k + 1) ∧ A = emptA rows (k + 1) ∧ ∀ j, j < k + 1 → (rows.getD j []).length = 0 ∨ OneP (rows.getD j [])) := by
              have e0 : (rows.getD k []).length ≠ 0 := by rw [Hrow.out, Hl.out]; exact hl0
              refine ⟨by rw [emptN_no e0, ← hok.out.1], by rw [emptA_no e0, ← hok.out.2.1], fun j hj => ?_⟩
              by_cases e : j = k
              · subst e; rw [Hrow.out]; exact .inr hp
              · exact hok.out.2.2 j (by omega)
            have P := Lib.hid (piece_pb hp)
            clear hok hp hl0
            go_wp2_with (go_at_call 48; refine (listOf_any _ _ _ _ row 3 HR.out).mono ?_; rintro e w' ⟨rfl, rfl⟩; rw [P.out])
            go_round
            case rel => exact ⟨k + 1, E, A, by omega, by omega, by go_num, rfl, rfl, NX⟩
            case measure => simp [intOf]; omega
          · have NP := Lib.hid (show ¬ PiecesP rows from fun e => by
              rcases e.2 k (by rw [H.out]; exact hlt) with h1 | h1
              · rw [Hrow.out, Hl.out] at h1; exact hl0 h1
              · rw [Hrow.out] at h1; exact hp h1)
            have P := Lib.hid (piece_pb_no hp)
            clear hok hp hl0
            go_wp2_with (go_at_call 48; refine (listOf_any _ _ _ _ row 3 HR.out).mono ?_; rintro e w' ⟨rfl, rfl⟩; rw [P.out])
            go_ret3
            exact ⟨.inr ⟨NP.out, rfl⟩, rfl⟩
      · have hkn : k = n := by omega
        subst hkn
        go_wp2
        go_ret3
        exact ⟨.inl ⟨⟨by rw [H.out]; exact h15, fun i hi => hok.out.2.2 i (by rw [← H.out]; exact hi)⟩, by rw [H.out, ← hok.out.1, ← hok.out.2.1]; rfl⟩, rfl⟩
theorem l23Piece_any (w : World) (ao : Option Addr) (n cap : Nat) (xs : List Int) (h : IntsAt w ao n cap xs) :
    Calls Try.prog 55 #[.slice ao n cap] w fun e w' => e = .returned (.bool (pb (OneP xs))) ∧ w = w' := by
  have H := Lib.hid h.len
  by_cases hp : ListP xs
  · have P := Lib.hid (pb_true hp)
    by_cases h3 : n = 3
    · have R := Lib.hid (show pb (OneP xs) = true from pb_true ⟨by rw [H.out]; exact h3, hp⟩)
      have H3 := Lib.hid h3
      have h3' : ((n : Int) == 3) = true := by simp; omega
      clear h3 hp
      go_enter Try.func55, Try.ntmps55
      go_wp2_with (go_at_call 41; refine (l2List_any _ _ _ _ xs h).mono ?_; rintro e w' ⟨rfl, rfl⟩; rw [P.out])
      go_ret
      exact ⟨by rw [R.out]; rfl, rfl⟩
    · have R := Lib.hid (show pb (OneP xs) = false from pb_false fun e => h3 (by rw [← H.out]; exact e.1))
      have h3' : ((n : Int) == 3) = false := by simp; omega
      clear h3 hp
      go_enter Try.func55, Try.ntmps55
      go_wp2_with (go_at_call 41; refine (l2List_any _ _ _ _ xs h).mono ?_; rintro e w' ⟨rfl, rfl⟩; rw [P.out])
      go_ret
      exact ⟨by rw [R.out]; rfl, rfl⟩
  · have P := Lib.hid (pb_false hp)
    have R := Lib.hid (show pb (OneP xs) = false from pb_false fun e => hp e.2)
    clear hp
    go_enter Try.func55, Try.ntmps55
    go_wp2_with (go_at_call 41; refine (l2List_any _ _ _ _ xs h).mono ?_; rintro e w' ⟨rfl, rfl⟩; rw [P.out])
    go_ret
    exact ⟨by rw [R.out]; rfl, rfl⟩
def MissSPost (w : World) (rows : List (List Int)) (e : Ending) (w' : World) : Prop :=
  ((PiecesP rows ∧ e = .returned (.int .i64 (emptN rows rows.length))) ∨ (¬ PiecesP rows ∧ e = .returned (.int .i64 (-1)))) ∧ w = w'
set_option maxHeartbeats 1000000 in
theorem l23Missing_any (w : World) (ao : Option Addr) (n cap : Nat) (rows : List (List Int)) (h : RowsAt w ao n cap rows) :
    Calls Try.prog 51 #[.slice ao n cap] w (MissSPost w rows) := by
  have H := Lib.hid h.len
  have hm := TabAt.le h
  go_enter Try.func51, Try.ntmps51
  go_wp2
  go_loop [3, 4] (fun c q => ∃ (k E : Nat), k ≤ n ∧ E ≤ k ∧ q = .int .i64 k ∧ c = .int .i64 E ∧ Hid (E = emptN rows k ∧ ∀ j, j < k → (rows.getD j []).length = 0 ∨ OneP (rows.getD j []))) (fun _ q => n - (intOf q).toNat)
  case atStart => exact ⟨0, 0, by omega, by omega, rfl, rfl, Lib.hid ⟨rfl, fun j hj => by omega⟩⟩
  case round =>
    obtain ⟨k, E, hk, hE, rfl, rfl, hok⟩ := hrel
    by_cases hlt : k < n
    · obtain ⟨b, off, ro, rc, rfl, cc, hr⟩ := h.at k hlt
      obtain ⟨row, hrow⟩ : ∃ row, rows.getD k [] = row := ⟨_, rfl⟩
      obtain ⟨l, hl⟩ : ∃ l, row.length = l := ⟨_, rfl⟩
      rw [hrow, hl] at cc hr
      have HR := Lib.hid hr
      have Hrow := Lib.hid hrow
      have Hl := Lib.hid hl
      clear hr hrow hl
      by_cases hl0 : l = 0
      · subst hl0
        have NX : Hid (E + 1 = emptN rows (k + 1) ∧ ∀ j, j < k + 1 → (rows.getD j []).length = 0 ∨ OneP (rows.getD j [])) := by
          have e0 : (rows.getD k []).length = 0 := by rw [Hrow.out, Hl.out]
          refine ⟨by rw [emptN_yes e0, ← hok.out.1], fun j hj => ?_⟩
          by_cases e : j = k
          · subst e; exact .inl e0
          · exact hok.out.2 j (by omega)
        clear hok
        go_wp2
        go_round
        case rel => exact ⟨k + 1, E + 1, by omega, by omega, by go_num, by go_num, NX⟩
        case measure => simp [intOf]; omega
      · have hl1 : ((l : Int) == 0) = false := by simp; omega
        by_cases hp : OneP row
        · have NX : Hid (E = emptN rows (k + 1) ∧ ∀ j, j < k + 1 → (rows.getD j []).length = 0 ∨ OneP (rows.getD j [])) := by
            have e0 : (rows.getD k []).length ≠ 0 := by rw [Hrow.out, Hl.out]; exact hl0
            refine ⟨by rw [emptN_no e0, ← hok.out.1], fun j hj => ?_⟩
            by_cases e : j = k
            · subst e; rw [Hrow.out]; exact .inr hp
            · exact hok.out.2 j (by omega)
          have P := Lib.hid (pb_true hp)
          clear hok hp hl0
          go_wp2_with (go_at_call 55; refine (l23Piece_any _ _ _ _ row HR.out).mono ?_; rintro e w' ⟨rfl, rfl⟩; rw [P.out])
          go_round
          case rel => exact ⟨k + 1, E, by omega, by omega, by go_num, rfl, NX⟩
          case measure => simp [intOf]; omega
        · have NP := Lib.hid (show ¬ PiecesP rows from fun e => by
            rcases e.2 k (by rw [H.out]; exact hlt) with h1 | h1
            · rw [Hrow.out, Hl.out] at h1; exact hl0 h1
            · rw [Hrow.out] at h1; exact hp h1)
          have P := Lib.hid (pb_false hp)
          clear hok hp hl0
          go_wp2_with (go_at_call 55; refine (l23Piece_any _ _ _ _ row HR.out).mono ?_; rintro e w' ⟨rfl, rfl⟩; rw [P.out])
          go_ret
          exact ⟨.inr ⟨NP.out, rfl⟩, rfl⟩
    · have hkn : k = n := by omega
      subst hkn
      by_cases h15 : 1 ≤ k ∧ k ≤ 5
      · have hb := Lib.hid (show inB (k : Int) 1 5 = true from inB_true (by omega) (by omega))
        go_wp2_with (go_at_call 54; refine (l6In_any _ _ _ _).mono ?_; rintro e w' ⟨rfl, rfl⟩; rw [hb.out])
        go_ret
        exact ⟨.inl ⟨⟨by rw [H.out]; exact h15, fun i hi => hok.out.2 i (by rw [← H.out]; exact hi)⟩, by rw [H.out, ← hok.out.1]; rfl⟩, rfl⟩
      · have hb := Lib.hid (show inB (k : Int) 1 5 = false from inB_false.2 (by omega))
        have NP := Lib.hid (show ¬ PiecesP rows from fun e => h15 (by have := e.1; have := H.out; omega))
        clear h15
        go_wp2_with (go_at_call 54; refine (l6In_any _ _ _ _).mono ?_; rintro e w' ⟨rfl, rfl⟩; rw [hb.out])
        go_ret
        exact ⟨.inr ⟨NP.out, rfl⟩, rfl⟩
end Go.Proofs.Ytkacopgfnkoifaa
