/- Letters packed and opened. -/
import Derived.Test.YtedpkhboepahgaaLetP
import Derived.Test.YtedpkhboepahgaaTag
import Derived.Test.YtedpkhboepahgaaStep
import Derived.Test.YtedpkhboepahgaaCopy
import Derived.Test.YtedpkhboepahgaaSameI
import Derived.WalkKit
import Derived.Lib.Hide
import Derived.Deep.QuietTactic
import Derived.BigQuiet
import Derived.OwnWalk
namespace Go.Proofs.Ytedpkhboepahgaa
open Go.RowKit
/-- a list of the call's own, and a bool -/
def RetI (w : World) (xs : List Int) (b : Bool) (e : Ending) (w' : World) : Prop :=
  ∃ ao cap, e = .returned (.tuple #[.slice ao xs.length cap, .bool b]) ∧ OwnI w.heap.size w' (.slice ao xs.length cap) xs ∧ w.grownBy w' none
theorem ret_no {w : World} {xs : List Int} {b : Bool} (h : xs = []) (hb : b = false) : RetI w xs b (.returned (.tuple #[.slice none 0 0, .bool false])) w := by
  subst h; subst hb
  exact ⟨none, 0, rfl, ⟨rfl, .inl ⟨rfl, rfl⟩⟩, grown_refl _ _⟩
theorem ret_nil {w : World} {xs : List Int} {b : Bool} (h : xs = []) (hb : b = false) {w' : World} (g : w.grownBy w' none) : RetI w xs b (.returned (.tuple #[.slice (some ⟨w'.heap.size, 0, none⟩) 0 0, .bool false])) (w'.alloc (.cells #[] 3)) := by
  subst h; subst hb
  exact ⟨_, 0, rfl, Own.lower (own_nil w'.heap.size w' (Nat.le_refl _)) g.size, gAlloc g _⟩
theorem ret_own {w w' : World} {xs ys : List Int} {b : Bool} {ao : Option Addr} {n cap : Nat} (h : OwnI w.heap.size w' (.slice ao n cap) ys) (hb : b = true) (hx : xs = ys) (g : w.grownBy w' none) : RetI w xs b (.returned (.tuple #[.slice ao n cap, .bool true])) w' := by
  subst hb; subst hx
  have := (OwnI.ints h).2.1
  subst this
  exact ⟨ao, cap, rfl, h, g⟩
theorem le4 {n : Nat} : n ≤ 4 ↔ ¬ (4 : Int) < n := by omega
theorem set_body (xs : List Int) (h : xs.length ≤ 4) : ((List.replicate 6 (0 : Int)).set 0 (xs.length : Int)).take 1 ++ (xs ++ ((List.replicate 6 (0 : Int)).set 0 (xs.length : Int)).drop (1 + xs.length)) = bodyL xs ++ [0] := by
  have e : (List.replicate 6 (0 : Int)).set 0 (xs.length : Int) = (xs.length : Int) :: List.replicate 5 0 := rfl
  rw [e]
  have e2 : ((xs.length : Int) :: List.replicate 5 (0 : Int)).drop (1 + xs.length) = List.replicate (5 - xs.length) 0 := by
    rw [Nat.add_comm, List.drop_succ_cons, List.drop_replicate]
  rw [e2]
  unfold bodyL
  rw [List.cons_append, List.append_assoc, ← List.replicate_succ', show 4 - xs.length + 1 = 5 - xs.length by omega]
  rfl
theorem set_pack (l : List Int) (h : l.length ≤ 4) (t : Int) : (bodyL l ++ [0]).set 5 t = bodyL l ++ [t] := by
  rw [List.set_append_right _ _ (by rw [bodyL_len h]; omega), bodyL_len h]
  rfl
set_option maxHeartbeats 2000000 in
theorem letterPack_any (w : World) (ao : Option Addr) (n cap : Nat) (xs : List Int) (h : IntsAt w ao n cap xs) :
    Calls Try.prog 30 #[.slice ao n cap] w (RetI w (packR xs) (pb (PackP xs))) := by
  obtain ⟨i0, hi0, hz0, hz1, hz2⟩ := info_parts info_int
  have hm := RowAt.max h
  have hnm := RowAt.le h
  have H := Lib.hid h.len
  cases hp : pb (ListP xs)
  · have NP : ¬ PackP xs := fun e => (pb_not.1 hp) e.1
    have K := Lib.hid hp
    have A := Lib.hid (packR_no NP)
    have B := Lib.hid (pb_false NP)
    clear hp NP
    go_enter Try.func30, Try.ntmps30
    go_wp2_with (go_at_call 76; refine (isList_any _ _ _ _ _ h).mono ?_; rintro e w' ⟨rfl, rfl⟩; rw [K.out])
    go_ret2
    exact ret_no A.out B.out
  · have K := Lib.hid hp
    by_cases h4 : (4 : Int) < n
    · have NP : ¬ PackP xs := fun e => by have := e.2; have := H.out; omega
      have A := Lib.hid (packR_no NP)
      have B := Lib.hid (pb_false NP)
      clear hp NP
      go_enter Try.func30, Try.ntmps30
      go_wp2_with (go_at_call 76; refine (isList_any _ _ _ _ _ h).mono ?_; rintro e w' ⟨rfl, rfl⟩; rw [K.out])
      go_ret2
      exact ret_no A.out B.out
    · have hP : PackP xs := ⟨pb_iff.1 hp, by have := H.out; omega⟩
      have PP := Lib.hid hP
      have A := Lib.hid (packR_yes hP)
      have B := Lib.hid (pb_true hP)
      clear hp hP
      go_enter Try.func30, Try.ntmps30
      go_wp2_with (first | (go_at_call 76; refine (isList_any _ _ _ _ _ h).mono ?_; rintro e w' ⟨rfl, rfl⟩; rw [K.out]) | (at_make; refine wpList_make_full w rfl _ _ 23 rfl w.heap.size 3 i0 (.int .i64 0) 1 Try.underlying23 hi0 hz0 hz1 .i64 .i64 6 6 6 rfl rfl rfl rfl (by rw [hz2]; omega) (by unfold maxLen; omega) (Nat.le_refl _) ?_; intro w1 o1 g1; refine Hid.out ?_))
      show wpList _ _ _ _ _ _
      rw [made_ints] at o1
      have o2 : OwnI w.heap.size w1 (.slice (some ⟨w.heap.size, 0, none⟩) 6 6) (List.replicate 6 0) := by
        unfold OwnI Own
        simpa using o1
      obtain ⟨cz, fz, -, hset⟩ := ints_at1 o2 0 (by simp)
      have g2 := gSet g1 (p := ⟨w.heap.size, 0, none⟩) (Nat.le_refl _) (.int .i64 n)
      have O3 := Lib.hid (hset (n : Int))
      have HS := Lib.hid (h.grown g2)
      have G2 := Lib.hid g2
      clear o1 o2 g1 g2 hset hi0 hz0 hz1 hz2
      go_wp2_with (refine copy_ints rfl (.tmp 19) (.tmp 20) rfl (off := 1) O3.out HS.out rfl rfl (by omega) ?_; intro w3 o9 g9; refine Hid.out ?_)
      show wpList _ _ _ _ _ _
      have SB := set_body xs PP.out.2
      rw [H.out] at SB
      rw [SB] at o9
      have G9 := Lib.hid (grown_own G2.out (v := .slice (some ⟨w.heap.size, 0, none⟩) 6 6) O3.out g9 (Nat.le_refl _))
      have BL := bodyL_len PP.out.2
      have S9 := Lib.hid (IntsAt.sub (OwnI.ints o9).1 0 5 (by omega) (by omega))
      have TK : ((bodyL xs ++ [0]).take 5).drop 0 = bodyL xs := by
        rw [List.drop_zero, List.take_append_of_le_length (by omega), List.take_of_length_le (by omega)]
      rw [TK] at S9
      obtain ⟨cy, fy, -, hset2⟩ := ints_at1 o9 5 (by simp; omega)
      have O4 := Lib.hid (hset2 (tagL 1 (bodyL xs)))
      have G4 := Lib.hid (gSet G9.out (p := ⟨w.heap.size, 5, none⟩) (Nat.le_refl _) (.int .i64 (tagL 1 (bodyL xs))))
      rw [set_pack xs PP.out.2] at O4
      have BP := Lib.hid (bodyL_list PP.out)
      clear o9 g9 SB O3 HS G2 G9 hset2 TK cz fz BL
      go_wp2_with (go_at_call 77; refine (tagOf_any _ _ _ _ _ (bodyL xs) (by omega) S9.out BP.out).mono ?_; rintro e w' ⟨rfl, rfl⟩)
      go_ret2
      exact ret_own O4.out B.out A.out G4.out
def grownL (xs : List Int) (i : Nat) : List Int := (xs.length : Int) :: (xs ++ List.replicate i 0)
theorem grownL_len (xs : List Int) (i : Nat) : (grownL xs i).length = xs.length + 1 + i := by simp [grownL]; omega
theorem grownL_succ (xs : List Int) (i : Nat) : grownL xs (i + 1) = grownL xs i ++ [0] := by simp [grownL, List.replicate_succ']
theorem grownL_end (xs : List Int) : grownL xs (4 - xs.length) = bodyL xs := rfl
def lenOf : Value → Nat
  | .slice _ n _ => n
  | _ => 0
set_option maxHeartbeats 2000000 in
theorem letterPackS_any (w : World) (ao : Option Addr) (n cap : Nat) (xs : List Int) (h : IntsAt w ao n cap xs) :
    Calls Try.prog 63 #[.slice ao n cap] w (RetI w (packR xs) (pb (PackP xs))) := by
  have hm := RowAt.max h
  have hnm := RowAt.le h
  have H := Lib.hid h.len
  cases hp : pb (ListP xs)
  · have NP : ¬ PackP xs := fun e => (pb_not.1 hp) e.1
    have K := Lib.hid hp
    have A := Lib.hid (packR_no NP)
    have B := Lib.hid (pb_false NP)
    clear hp NP
    go_enter Try.func63, Try.ntmps63
    go_wp2_with (go_at_call 69; refine (l2List_any _ _ _ _ _ h).mono ?_; rintro e w' ⟨rfl, rfl⟩; rw [K.out])
    go_ret2
    exact ret_nil A.out B.out (grown_refl _ _)
  · have K := Lib.hid hp
    by_cases h4 : (4 : Int) < n
    · have NP : ¬ PackP xs := fun e => by have := e.2; have := H.out; omega
      have A := Lib.hid (packR_no NP)
      have B := Lib.hid (pb_false NP)
      clear hp NP
      go_enter Try.func63, Try.ntmps63
      go_wp2_with (go_at_call 69; refine (l2List_any _ _ _ _ _ h).mono ?_; rintro e w' ⟨rfl, rfl⟩; rw [K.out])
      go_ret2
      exact ret_nil A.out B.out (grown_refl _ _)
    · have hP : PackP xs := ⟨pb_iff.1 hp, by have := H.out; omega⟩
      have PP := Lib.hid hP
      have A := Lib.hid (packR_yes hP)
      have B := Lib.hid (pb_true hP)
      clear hp hP
      have O1 : Hid (OwnI w.heap.size (w.alloc (.cells #[.int .i64 n] 3)) (.slice (some ⟨w.heap.size, 0, none⟩) 1 1) [(n : Int)]) := Lib.hid (own_lit 3 w #[.int .i64 n] (by simp))
      have A1 := Lib.hid (h.grown (grown_alloc w (.cells #[.int .i64 n] 3) none))
      go_enter Try.func63, Try.ntmps63
      go_wp2_with (first | (go_at_call 69; refine (l2List_any _ _ _ _ _ h).mono ?_; rintro e w' ⟨rfl, rfl⟩; rw [K.out]) | (at_builtin; refine app_ints rfl (.tmp 16) (.tmp 17) rfl O1.out A1.out rfl rfl (grown_alloc w _ none).size (by have := PP.out.2; simp; omega) ?_; intro v3 w3 o3 g3; refine Hid.out ?_))
      show wpList _ _ _ _ _ _
      have G3 := Lib.hid (grown_own (grown_alloc w (.cells #[.int .i64 n] 3) none) O1.out g3 (Nat.le_refl _))
      have O3 := Lib.hid (own_eq o3 (show grownL xs 0 = [(n : Int)] ++ xs by simp [grownL, H.out]))
      clear o3 g3 A1 O1
      obtain ⟨a3, c3, rfl, -, -⟩ := OwnI.shape O3.out
      rw [grownL_len] at O3 ⊢
      rw [H.out] at O3 ⊢
      rw [Nat.add_zero] at O3 ⊢
      go_wp2
      go_loopw [4] (fun v wr => ∃ i : Nat, ∃ a c, v = .slice a (n + 1 + i) c ∧ n + i ≤ 4 ∧ Hid (OwnI w.heap.size wr v (grownL xs i)) ∧ Hid (w.grownBy wr none)) (fun v _ => 5 - lenOf v)
      case atStart => exact ⟨0, a3, c3, rfl, by omega, O3, G3⟩
      case round =>
        clear O3 G3
        obtain ⟨i, a, c, rfl, hi, ho, hg⟩ := hrel
        by_cases hlt : n + i < 4
        · have q : ((n + 1 + i : Nat) : Int) < 5 := by omega
          go_wp2_with (at_builtin; refine app_ints rfl (.tmp 22) (.tmp 23) rfl (OwnI.grown ho.out (grown_alloc _ _ none)) (one_int _ _) rfl rfl (gAlloc hg.out _).size (by rw [grownL_len, H.out]; simp; omega) ?_; intro v5 w5 o5 g5; refine Hid.out ?_)
          show wpList _ _ _ _ _ _
          have G5 := Lib.hid (grown_own (gAlloc hg.out _) (OwnI.grown ho.out (grown_alloc _ _ none)) g5 (Nat.le_refl _))
          have O5 := Lib.hid (own_eq o5 (grownL_succ xs i))
          clear o5 g5 ho hg
          obtain ⟨a5, c5, rfl, -, -⟩ := OwnI.shape O5.out
          rw [grownL_len] at O5 ⊢
          rw [H.out] at O5 ⊢
          go_wp2
          go_roundw
          case rel => exact ⟨i + 1, a5, c5, rfl, by omega, O5, G5⟩
          case measure => simp [lenOf]; omega
        · have hi4 : i = 4 - n := by omega
          have q : ¬ ((n + 1 + i : Nat) : Int) < 5 := by omega
          have E := Lib.hid (show grownL xs i = bodyL xs by rw [hi4, ← H.out]; rfl)
          have O5 := Lib.hid (own_eq ho.out E.out.symm)
          have BP := Lib.hid (bodyL_list PP.out)
          have BL := Lib.hid (bodyL_len PP.out.2)
          have G5 := Lib.hid hg.out
          clear ho hg hi4
          go_wp2_with (first | (go_at_call 91; refine (l3Tag_any _ _ _ _ _ (bodyL xs) (by omega) (OwnI.ints O5.out).1 BP.out).mono ?_; rintro e w' ⟨rfl, rfl⟩) | (at_builtin; refine app_ints rfl (.tmp 25) (.tmp 28) rfl (OwnI.grown O5.out (grown_alloc _ _ none)) (one_int _ _) rfl rfl (gAlloc G5.out _).size (by rw [BL.out]; simp) ?_; intro v6 w6 o6 g6; refine Hid.out ?_))
          show wpList _ _ _ _ _ _
          have G6 := Lib.hid (grown_own (gAlloc G5.out _) (OwnI.grown O5.out (grown_alloc _ _ none)) g6 (Nat.le_refl _))
          have O6 := Lib.hid (own_eq o6 (show packL xs = bodyL xs ++ [tagL 1 (bodyL xs)] from rfl))
          clear o6 g6
          obtain ⟨a6, c6, rfl, -, -⟩ := OwnI.shape O6.out
          go_wp2
          go_ret2
          exact ret_own O6.out B.out A.out G6.out
end Go.Proofs.Ytedpkhboepahgaa
