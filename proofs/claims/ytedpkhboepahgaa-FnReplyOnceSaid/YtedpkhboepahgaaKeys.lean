/- The shared keys of a path. -/
import Derived.Test.YtedpkhboepahgaaROpen
import Derived.WalkKit
import Derived.Lib.Hide
import Derived.Deep.QuietTactic
import Derived.BigQuiet
import Derived.OwnWalk
namespace Go.Proofs.Ytedpkhboepahgaa
open Go.RowKit
theorem cop_all : ((List.range 997).all fun a => a == 0 || Nat.gcd a 997 == 1) = true := by kernel_rfl
theorem cop_997 {a : Nat} (h : 1 ≤ a) (k : a ≤ 996) : Nat.Coprime a 997 := by
  have := List.all_eq_true.1 cop_all a (List.mem_range.2 (by omega))
  simp only [Bool.or_eq_true, beq_iff_eq] at this
  rcases this with e | e
  · omega
  · exact e
/-- a product of two elements is one -/
theorem prod_el {a b : Int} (h : 1 ≤ a ∧ a ≤ 996) (k : 1 ≤ b ∧ b ≤ 996) : 1 ≤ prodZ a b ∧ prodZ a b ≤ 996 := by
  rw [prodZ_el (elB_iff.2 h) (elB_iff.2 k)]
  obtain ⟨m, rfl⟩ := Int.eq_ofNat_of_zero_le (show 0 ≤ a by omega)
  obtain ⟨n, rfl⟩ := Int.eq_ofNat_of_zero_le (show 0 ≤ b by omega)
  have hne : ¬ (m * n) % 997 = 0 := fun e => by
    have h1 : 997 ∣ m * n := Nat.dvd_of_mod_eq_zero e
    have h2 : 997 ∣ n := (Nat.Coprime.symm (cop_997 (a := m) (by omega) (by omega))).dvd_of_dvd_mul_left h1
    have := Nat.le_of_dvd (by omega) h2
    omega
  have e : ((m : Int) * (n : Int)) % 997 = (((m * n) % 997 : Nat) : Int) := by simp
  rw [e]; omega
def factZ (s : Int) : Int := 1 + (7 * s + 3) % 996
theorem fact_el (s : Int) : 1 ≤ factZ s ∧ factZ s ≤ 996 := by unfold factZ; omega
def stepK (a : List Int × Int) (p : Int) : List Int × Int := (a.1 ++ [prodZ a.2 p], prodZ a.2 (factZ (prodZ a.2 p)))
def foldK (x : Int) (ps : List Int) : List Int × Int := ps.foldl stepK ([], x)
def keysL (x : Int) (ps : List Int) : List Int := (foldK x ps).1
theorem foldK_step {x : Int} {ps : List Int} {j : Nat} (hj : j < ps.length) : foldK x (ps.take (j + 1)) = stepK (foldK x (ps.take j)) (ps.getD j 0) := by
  rw [take_getD hj]; simp [foldK]
theorem foldK_len (x : Int) (ps : List Int) : (foldK x ps).1.length = ps.length := by
  suffices h : ∀ a : List Int × Int, (ps.foldl stepK a).1.length = a.1.length + ps.length by have := h ([], x); unfold foldK; simpa using this
  induction ps with
  | nil => intro a; simp
  | cons p ps ih => intro a; rw [List.foldl_cons, ih]; simp [stepK]; omega
theorem keysL_len (x : Int) (ps : List Int) : (keysL x ps).length = ps.length := foldK_len x ps
theorem foldK_els {x : Int} (hx : 1 ≤ x ∧ x ≤ 996) {ps : List Int} (h : ∀ p, p ∈ ps → 1 ≤ p ∧ p ≤ 996) : (∀ k, k ∈ (foldK x ps).1 → 1 ≤ k ∧ k ≤ 996) ∧ 1 ≤ (foldK x ps).2 ∧ (foldK x ps).2 ≤ 996 := by
  suffices H : ∀ a : List Int × Int, (∀ k, k ∈ a.1 → 1 ≤ k ∧ k ≤ 996) → 1 ≤ a.2 ∧ a.2 ≤ 996 → (∀ k, k ∈ (ps.foldl stepK a).1 → 1 ≤ k ∧ k ≤ 996) ∧ 1 ≤ (ps.foldl stepK a).2 ∧ (ps.foldl stepK a).2 ≤ 996 from
    H ([], x) (fun k hk => by simp at hk) hx
  induction ps with
  | nil => intro a h1 h2; exact ⟨h1, h2⟩
  | cons p ps ih =>
    intro a h1 h2
    have hp := h p (by simp)
    have hs := prod_el h2 hp
    refine ih (fun q hq => h q (List.mem_cons_of_mem _ hq)) (stepK a p) (fun k hk => ?_) (prod_el h2 (fact_el _))
    rcases List.mem_append.1 hk with hk | hk
    · exact h1 k hk
    · rw [List.mem_singleton.1 hk]; exact hs
theorem els_mem {ks : List Int} : ElsP ks ↔ ∀ k, k ∈ ks → 1 ≤ k ∧ k ≤ 996 := by
  constructor
  · intro h k hk
    obtain ⟨i, hi, rfl⟩ := List.mem_iff_getElem.1 hk
    have := h i hi
    simpa [List.getD_eq_getElem?_getD, List.getElem?_eq_getElem hi] using this
  · intro h i hi
    exact h _ (mem_getD hi)
theorem els_take {ks : List Int} (h : ElsP ks) (j : Nat) : ∀ k, k ∈ ks.take j → 1 ≤ k ∧ k ≤ 996 := fun k hk => els_mem.1 h k (List.mem_of_mem_take hk)
theorem keysL_path {x : Int} (hx : 1 ≤ x ∧ x ≤ 996) {ps : List Int} (h : PathP ps) : PathP (keysL x ps) :=
  ⟨els_mem.2 (foldK_els hx (els_mem.1 h.1)).1, by rw [keysL_len]; exact h.2⟩
theorem sharedOf_any (a b : Int) (w : World) : Calls Try.prog 52 #[.int .i64 a, .int .i64 b] w fun e w' => e = .returned (.int .i64 (prodZ a b)) ∧ w = w' := by
  go_enter Try.func52, Try.ntmps52
  go_wp2_with (go_at_call 79; refine (product_any _ _ _).mono ?_; rintro e w' ⟨rfl, rfl⟩)
  go_ret
  exact ⟨rfl, rfl⟩
theorem blindOf_any (a b : Int) (w : World) : Calls Try.prog 56 #[.int .i64 a, .int .i64 b] w fun e w' => e = .returned (.int .i64 (prodZ a b)) ∧ w = w' := by
  go_enter Try.func56, Try.ntmps56
  go_wp2_with (go_at_call 79; refine (product_any _ _ _).mono ?_; rintro e w' ⟨rfl, rfl⟩)
  go_ret
  exact ⟨rfl, rfl⟩
theorem publicOf_any (s : Int) (w : World) : Calls Try.prog 40 #[.int .i64 s] w fun e w' => e = .returned (.int .i64 (prodZ s 5)) ∧ w = w' := by
  go_enter Try.func40, Try.ntmps40
  go_wp2_with (go_at_call 79; refine (product_any _ _ _).mono ?_; rintro e w' ⟨rfl, rfl⟩)
  go_ret
  exact ⟨rfl, rfl⟩
theorem publicOfS_any (s : Int) (w : World) (hs : 1 ≤ s ∧ s ≤ 996) : Calls Try.prog 85 #[.int .i64 s] w fun e w' => e = .returned (.int .i64 (prodZ s 5)) ∧ w = w' := by
  have EK := Lib.hid (elB_iff.2 hs)
  go_enter Try.func85, Try.ntmps85
  go_wp2_with (first | (go_at_call 82; refine (l1Is_any _ _).mono ?_; rintro e w' ⟨rfl, rfl⟩; rw [EK.out]) | (go_at_call 86; refine (l1Times_any _ _ _ hs (by omega)).mono ?_; rintro e w' ⟨rfl, rfl⟩))
  go_ret
  exact ⟨rfl, rfl⟩
theorem l1Factor_any (s : Int) (w : World) (hs : 1 ≤ s ∧ s ≤ 996) : Calls Try.prog 87 #[.int .i64 s] w fun e w' => e = .returned (.int .i64 (factZ s)) ∧ w = w' := by
  have E := Lib.hid (show 1 + (7 * s + 3) % 996 = factZ s from rfl)
  obtain ⟨h0, h1⟩ := hs
  go_enter Try.func87, Try.ntmps87
  go_wp2
  go_ret
  exact ⟨by rw [← E.out]; rfl, rfl⟩
theorem factorOf_any (s : Int) (w : World) (hs : 1 ≤ s ∧ s ≤ 996) : Calls Try.prog 57 #[.int .i64 s] w fun e w' => e = .returned (.int .i64 (factZ s)) ∧ w = w' := by
  have E := Lib.hid (show 1 + (7 * s + 3) % 996 = factZ s from rfl)
  have EK := Lib.hid (elB_iff.2 hs)
  obtain ⟨h0, h1⟩ := hs
  go_enter Try.func57, Try.ntmps57
  go_wp2_with (go_at_call 51; refine (isElement_any _ _).mono ?_; rintro e w' ⟨rfl, rfl⟩; rw [EK.out])
  go_ret
  exact ⟨by rw [← E.out]; rfl, rfl⟩
set_option maxHeartbeats 2000000 in
theorem l5Keys_any (s : Int) (w : World) (ao : Option Addr) (n cap : Nat) (xs : List Int) (hs : 1 ≤ s ∧ s ≤ 996) (h : IntsAt w ao n cap xs) (hp : ElsP xs) (hn : n ≤ 1000) :
    Calls Try.prog 47 #[.int .i64 s, .slice ao n cap] w (IntsPost w (keysL s xs)) := by
  have hm := RowAt.max h
  have hnm := RowAt.le h
  have HN := Lib.hid h.len
  have HA := Lib.hid h
  have PP := Lib.hid hp
  have O0 := Lib.hid (own_nil w.heap.size w (Nat.le_refl _))
  have G0 := Lib.hid (grown_alloc w (.cells #[] 3) none)
  clear h hp
  go_enter Try.func47, Try.ntmps47
  go_wp2_with fail
  go_loopw [5, 6, 7, 8] (fun v x i u wr => ∃ j : Nat, j ≤ n ∧ i = .int .i64 j ∧ x = .int .i64 (foldK s (xs.take j)).2 ∧ Hid (OwnI w.heap.size wr v (foldK s (xs.take j)).1) ∧ Hid (w.grownBy wr none)) (fun v x i u _ => n - (intOf i).toNat)
  case atStart => exact ⟨0, by omega, rfl, rfl, O0, G0⟩
  case round =>
    clear O0 G0
    obtain ⟨j, hj, rfl, rfl, ho, hg⟩ := hrel
    have FE := Lib.hid (foldK_els hs (els_take PP.out j)).2
    have FL := Lib.hid (show (foldK s (xs.take j)).1.length = j by rw [foldK_len]; simp; have := HN.out; omega)
    by_cases hlt : j < n
    · obtain ⟨b, off, rfl, -, hc⟩ := IntsAt.addr (HA.out.grown hg.out) (by omega)
      have cp := hc j hlt
      have pr := PP.out j (by have := HN.out; omega)
      have NX := Lib.hid (foldK_step (x := s) (ps := xs) (j := j) (by have := HN.out; omega))
      obtain ⟨p, hp⟩ : ∃ p, xs.getD j 0 = p := ⟨_, rfl⟩
      rw [hp] at cp pr NX
      obtain ⟨A, hA⟩ : ∃ A, foldK s (xs.take j) = A := ⟨_, rfl⟩
      rw [hA] at FE NX ho FL ⊢
      obtain ⟨x, hx⟩ : ∃ x, A.2 = x := ⟨_, rfl⟩
      rw [hx] at FE ⊢
      have SE := Lib.hid (prod_el FE.out pr)
      obtain ⟨q, hq⟩ : ∃ q, prodZ x p = q := ⟨_, rfl⟩
      have NX1 := Lib.hid (show (foldK s (xs.take (j + 1))).1 = A.1 ++ [q] by rw [NX.out, ← hq, ← hx]; rfl)
      have NX2 := Lib.hid (show (foldK s (xs.take (j + 1))).2 = prodZ x (factZ q) by rw [NX.out, ← hq, ← hx]; rfl)
      rw [hq] at SE
      have HQ := Lib.hid hq
      have PR := Lib.hid pr
      clear hc hp hA hx hq pr NX
      go_wp2_with (first | (go_at_call 86; refine (l1Times_any x p _ FE.out PR.out).mono ?_; rintro e w' ⟨rfl, rfl⟩; rw [HQ.out]) | (at_builtin; refine app_ints rfl (.tmp 23) (.tmp 25) rfl (OwnI.grown ho.out (grown_alloc _ _ none)) (one_int _ _) rfl rfl (gAlloc hg.out _).size (by rw [FL.out]; simp; omega) ?_; intro v6 w6 o6 g6; refine Hid.out ?_))
      show wpList _ _ _ _ _ _
      have G6 := Lib.hid (grown_own (gAlloc hg.out _) (OwnI.grown ho.out (grown_alloc _ _ none)) g6 (Nat.le_refl _))
      have O6 := Lib.hid (own_eq o6 NX1.out)
      clear o6 g6
      go_wp2_with (first | (go_at_call 87; refine (l1Factor_any q _ SE.out).mono ?_; rintro e w' ⟨rfl, rfl⟩) | (go_at_call 86; refine (l1Times_any x (factZ q) _ FE.out (fact_el q)).mono ?_; rintro e w' ⟨rfl, rfl⟩))
      clear ho hg
      go_roundw
      case rel => exact ⟨j + 1, by omega, by go_num, by rw [NX2.out], O6, G6⟩
      case measure => simp [intOf]; omega
    · have hjn : j = n := by omega
      subst hjn
      have E := Lib.hid (show foldK s (xs.take j) = foldK s xs by rw [List.take_of_length_le (by have := HN.out; omega)])
      rw [E.out] at ho FL ⊢
      obtain ⟨a5, c5, rfl, -, -⟩ := OwnI.shape ho.out
      have O5 := Lib.hid ho.out
      have G5 := Lib.hid hg.out
      clear ho hg
      go_wp2
      go_ret; exact ints_post O5.out G5.out
def KeyMP (s : Int) (ps : List Int) : Prop := (1 ≤ s ∧ s ≤ 996) ∧ PathP ps
open Classical in
noncomputable def keysR (s : Int) (ps : List Int) : List Int := if KeyMP s ps then keysL s ps else []
theorem keysR_yes {s : Int} {ps : List Int} (h : KeyMP s ps) : keysR s ps = keysL s ps := if_pos h
theorem keysR_no {s : Int} {ps : List Int} (h : ¬ KeyMP s ps) : keysR s ps = [] := if_neg h
set_option maxHeartbeats 2000000 in
theorem pathKeys_any (s : Int) (w : World) (ao : Option Addr) (n cap : Nat) (xs : List Int) (h : IntsAt w ao n cap xs) :
    Calls Try.prog 39 #[.int .i64 s, .slice ao n cap] w (RetI w (keysR s xs) (pb (KeyMP s xs))) := by
  have hm := RowAt.max h
  have hnm := RowAt.le h
  have HN := Lib.hid h.len
  have HA := Lib.hid h
  clear h
  cases h1 : elB s
  · have NP : ¬ KeyMP s xs := fun e => by rw [elB_iff.2 e.1] at h1; cases h1
    have A := Lib.hid (keysR_no NP)
    have B := Lib.hid (pb_false NP)
    have K := Lib.hid h1
    clear NP h1
    go_enter Try.func39, Try.ntmps39
    go_wp2_with (go_at_call 51; refine (isElement_any _ _).mono ?_; rintro e w' ⟨rfl, rfl⟩; rw [K.out])
    go_ret2
    exact ret_no A.out B.out
  · cases h2 : pb (PathP xs)
    · have NP : ¬ KeyMP s xs := fun e => (pb_not.1 h2) e.2
      have A := Lib.hid (keysR_no NP)
      have B := Lib.hid (pb_false NP)
      have K := Lib.hid h1
      have K2 := Lib.hid h2
      clear NP h1 h2
      go_enter Try.func39, Try.ntmps39
      go_wp2_with (first | (go_at_call 51; refine (isElement_any _ _).mono ?_; rintro e w' ⟨rfl, rfl⟩; rw [K.out]) | (go_at_call 58; refine (isPath_any _ _ _ _ _ HA.out).mono ?_; rintro e w' ⟨rfl, rfl⟩; rw [K2.out]))
      go_ret2
      exact ret_no A.out B.out
    · have hs := elB_iff.1 h1
      have hpp := pb_iff.1 h2
      have PP := Lib.hid hpp.1
      have hn3 : n ≤ 3 := by have := hpp.2; have := HN.out; omega
      have A := Lib.hid (keysR_yes ⟨hs, hpp⟩)
      have B := Lib.hid (pb_true (p := KeyMP s xs) ⟨hs, hpp⟩)
      have K := Lib.hid h1
      have K2 := Lib.hid h2
      clear h1 h2 hpp
      have O0 := Lib.hid (own_nil w.heap.size w (Nat.le_refl _))
      have G0 := Lib.hid (grown_alloc w (.cells #[] 3) none)
      go_enter Try.func39, Try.ntmps39
      go_wp2_with (first | (go_at_call 51; refine (isElement_any _ _).mono ?_; rintro e w' ⟨rfl, rfl⟩; rw [K.out]) | (go_at_call 58; refine (isPath_any _ _ _ _ _ HA.out).mono ?_; rintro e w' ⟨rfl, rfl⟩; rw [K2.out]))
      go_loopw [0, 6, 8, 9, 21] (fun x v u t i wr => ∃ j : Nat, j ≤ n ∧ i = .int .i64 j ∧ x = .int .i64 (foldK s (xs.take j)).2 ∧ Hid (OwnI w.heap.size wr v (foldK s (xs.take j)).1) ∧ Hid (w.grownBy wr none)) (fun x v u t i _ => n - (intOf i).toNat)
      case atStart => exact ⟨0, by omega, rfl, rfl, O0, G0⟩
      case round =>
        clear O0 G0
        obtain ⟨j, hj, rfl, rfl, ho, hg⟩ := hrel
        have FE := Lib.hid (foldK_els hs (els_take PP.out j)).2
        have FL := Lib.hid (show (foldK s (xs.take j)).1.length = j by rw [foldK_len]; simp; have := HN.out; omega)
        by_cases hlt : j < n
        · obtain ⟨b, off, rfl, -, hc⟩ := IntsAt.addr (HA.out.grown hg.out) (by omega)
          have cp := hc j hlt
          have pr := PP.out j (by have := HN.out; omega)
          have NX := Lib.hid (foldK_step (x := s) (ps := xs) (j := j) (by have := HN.out; omega))
          obtain ⟨p, hp⟩ : ∃ p, xs.getD j 0 = p := ⟨_, rfl⟩
          rw [hp] at cp pr NX
          obtain ⟨A, hA⟩ : ∃ A, foldK s (xs.take j) = A := ⟨_, rfl⟩
          rw [hA] at FE NX ho FL ⊢
          obtain ⟨x, hx⟩ : ∃ x, A.2 = x := ⟨_, rfl⟩
          rw [hx] at FE ⊢
          have SE := Lib.hid (prod_el FE.out pr)
          obtain ⟨q, hq⟩ : ∃ q, prodZ x p = q := ⟨_, rfl⟩
          have NX1 := Lib.hid (show (foldK s (xs.take (j + 1))).1 = A.1 ++ [q] by rw [NX.out, ← hq, ← hx]; rfl)
          have NX2 := Lib.hid (show (foldK s (xs.take (j + 1))).2 = prodZ x (factZ q) by rw [NX.out, ← hq, ← hx]; rfl)
          rw [hq] at SE
          have HQ := Lib.hid hq
          have PR := Lib.hid pr
          clear hc hp hA hx hq pr NX
          go_wp2_with (first | (go_at_call 52; refine (sharedOf_any x p _).mono ?_; rintro e w' ⟨rfl, rfl⟩; rw [HQ.out]) | (at_builtin; refine app_ints rfl (.tmp 28) (.tmp 30) rfl (OwnI.grown ho.out (grown_alloc _ _ none)) (one_int _ _) rfl rfl (gAlloc hg.out _).size (by rw [FL.out]; simp; omega) ?_; intro v6 w6 o6 g6; refine Hid.out ?_))
          show wpList _ _ _ _ _ _
          have G6 := Lib.hid (grown_own (gAlloc hg.out _) (OwnI.grown ho.out (grown_alloc _ _ none)) g6 (Nat.le_refl _))
          have O6 := Lib.hid (own_eq o6 NX1.out)
          clear o6 g6
          go_wp2_with (first | (go_at_call 57; refine (factorOf_any q _ SE.out).mono ?_; rintro e w' ⟨rfl, rfl⟩) | (go_at_call 56; refine (blindOf_any x (factZ q) _).mono ?_; rintro e w' ⟨rfl, rfl⟩))
          clear ho hg
          go_roundw
          case rel => exact ⟨j + 1, by omega, by go_num, by rw [NX2.out], O6, G6⟩
          case measure => simp [intOf]; omega
        · have hjn : j = n := by omega
          subst hjn
          have E := Lib.hid (show foldK s (xs.take j) = foldK s xs by rw [List.take_of_length_le (by have := HN.out; omega)])
          rw [E.out] at ho FL ⊢
          obtain ⟨a5, c5, rfl, -, -⟩ := OwnI.shape ho.out
          have O5 := Lib.hid ho.out
          have G5 := Lib.hid hg.out
          clear ho hg
          go_wp2
          go_ret2; exact ret_own O5.out B.out A.out G5.out
end Go.Proofs.Ytedpkhboepahgaa
