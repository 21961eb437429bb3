/- Secrets of mixes and the keys that belong to them. -/
import Derived.Test.YtedpkhboepahgaaPath
import Derived.Test.YtedpkhboepahgaaKeys
import Derived.WalkKit
import Derived.Lib.Hide
import Derived.Deep.QuietTactic
import Derived.BigQuiet
namespace Go.Proofs.Ytedpkhboepahgaa
open Go.RowKit
theorem element_any (n : Int) (w : World) (h0 : 0 ≤ n) (h1 : n ≤ 1000000000) :
    Calls Try.prog 48 #[.int .i64 n] w fun e w' => e = .returned (.int .i64 (1 + n % 996)) ∧ w = w' := by
  have E : Hid (∀ z : Int, z = 1 + n % 996 → z = 1 + n % 996) := Lib.hid (fun z e => e)
  go_enter Try.func48, Try.ntmps48
  go_wp2
  go_ret
  exact ⟨by rw [E.out _ rfl]; rfl, rfl⟩
def seA (m n : Nat) : List Int := (List.range n).map fun (i : Nat) => 1 + ((m : Int) * 29 + (i : Int) * 101 + 3) % 996
def seB (m n : Nat) : List Int := (List.range n).map fun (i : Nat) => prodZ (1 + ((m : Int) * 29 + (i : Int) * 101 + 3) % 996) 5
theorem seA_len (m n : Nat) : (seA m n).length = n := by simp [seA]
theorem seB_len (m n : Nat) : (seB m n).length = n := by simp [seB]
theorem seA_step (m n : Nat) : seA m (n + 1) = seA m n ++ [1 + ((m : Int) * 29 + (n : Int) * 101 + 3) % 996] := by simp [seA, List.range_succ]
theorem seB_step (m n : Nat) : seB m (n + 1) = seB m n ++ [prodZ (1 + ((m : Int) * 29 + (n : Int) * 101 + 3) % 996) 5] := by simp [seB, List.range_succ]
theorem seA_at {m n i : Nat} (h : i < n) : (seA m n).getD i 0 = 1 + ((m : Int) * 29 + (i : Int) * 101 + 3) % 996 := by simp [seA, List.getD_eq_getElem?_getD, h]
theorem seB_at {m n i : Nat} (h : i < n) : (seB m n).getD i 0 = prodZ ((seA m n).getD i 0) 5 := by rw [seA_at h]; simp [seB, List.getD_eq_getElem?_getD, h]
theorem seA_el {m n i : Nat} (h : i < n) : 1 ≤ (seA m n).getD i 0 ∧ (seA m n).getD i 0 ≤ 996 := by rw [seA_at h]; omega
theorem seB_els (m n : Nat) : ElsP (seB m n) := fun i hi => by
  rw [seB_len] at hi
  rw [seB_at hi]
  exact prod_el (seA_el hi) (by omega)
def SecPost (m n : Nat) (w : World) (e : Ending) (w' : World) : Prop :=
  ∃ a c b d, e = .returned (.tuple #[.slice a n c, .slice b n d]) ∧ IntsAt w' a n c (seA m n) ∧ IntsAt w' b n d (seB m n) ∧ w.grownBy w' none
set_option maxRecDepth 4000 in
set_option maxHeartbeats 2000000 in
theorem secrets_any (m n : Nat) (w : World) (hm : m ≤ 1048576) (hn : n ≤ 3) :
    Calls Try.prog 16 #[.int .i64 n, .int .i64 m] w (SecPost m n w) := by
  have P0 := Lib.hid (OwnI.grown (own_nil w.heap.size w (Nat.le_refl _)) (grown_alloc _ (.cells #[] 3) none))
  have N0 : Hid (OwnI w.heap.size ((w.alloc (.cells #[] 3)).alloc (.cells #[] 3)) (.slice (some ⟨w.heap.size + 1, 0, none⟩) 0 0) []) := Lib.hid (own_nil_at (heap_next (by simp)) (by omega))
  have G0 := Lib.hid (show w.grownBy ((w.alloc (.cells #[] 3)).alloc (.cells #[] 3)) none from gAlloc (grown_alloc _ _ _) _)
  have AP0 : Hid (Ap (.slice (some ⟨w.heap.size, 0, none⟩) 0 0) (.slice (some ⟨w.heap.size + 1, 0, none⟩) 0 0)) := Lib.hid fun k e e2 => by simp [Value.ownBlock] at e e2; omega
  go_enter Try.func16, Try.ntmps16
  go_wp2
  go_loopw [6, 7, 8, 9] (fun u v q t wr => ∃ j : Nat, ∃ a c0 b d, j ≤ n ∧ q = .int .i64 j ∧ u = .slice a j c0 ∧ v = .slice b j d ∧ Hid (OwnI w.heap.size wr u (seA m j)) ∧ Hid (OwnI w.heap.size wr v (seB m j)) ∧ Hid (Ap u v) ∧ Hid (w.grownBy wr none)) (fun _ _ q _ _ => n - (intOf q).toNat)
  case atStart => exact ⟨0, _, _, _, _, by omega, rfl, rfl, rfl, P0, N0, AP0, G0⟩
  case round =>
    clear P0 N0 AP0 G0
    obtain ⟨j, a, c0, b, d, hj, rfl, rfl, rfl, hp, hn', hap, hg⟩ := hrel
    by_cases hlt : j < n
    · obtain ⟨x, hx⟩ : ∃ x : Int, 1 + ((m : Int) * 29 + (j : Int) * 101 + 3) % 996 = x := ⟨_, rfl⟩
      have SA := Lib.hid (show seA m j ++ [x] = seA m (j + 1) by rw [seA_step, hx])
      have SB := Lib.hid (show seB m j ++ [prodZ x 5] = seB m (j + 1) by rw [seB_step, hx])
      have HX := Lib.hid hx
      clear hx
      have P5 := Lib.hid (OwnI.grown hp.out (grown_alloc wr (.cells #[.int .i64 x] 3) none))
      have N5 := Lib.hid (OwnI.grown hn'.out (grown_alloc wr (.cells #[.int .i64 x] 3) none))
      have G5 := Lib.hid (gAlloc hg.out (.cells #[.int .i64 x] 3))
      have LA := Lib.hid (seA_len m j)
      have LB := Lib.hid (seB_len m j)
      clear hp hn' hg
      go_wp2_with (first | (go_at_call 48; refine (element_any _ _ (by omega) (by omega)).mono ?_; rintro e w' ⟨rfl, rfl⟩; rw [HX.out]) | (at_builtin; refine app_ints_at rfl (.tmp 24) (.tmp 26) rfl P5.out (one_int _ _) rfl rfl G5.out.size (by rw [LA.out]; simp; omega) ?_; intro v6 w6 o6 g6 a6; refine Hid.out ?_))
      show wpList _ _ _ _ _ _
      have N6 := Lib.hid (Own.apart N5.out g6 hap.out.symm.or)
      have A6 := Lib.hid (Ap.symm (Ap.step hap.out.symm (fun k e => (World.ownsRow.lt N5.out k e).2) a6))
      have G6 := Lib.hid (grown_own G5.out P5.out g6 (Nat.le_refl _))
      rw [SA.out] at o6
      have P6 := Lib.hid o6
      clear g6 o6 a6 P5 N5 G5 hap
      obtain ⟨a6, c6, rfl, -, -⟩ := OwnI.shape P6.out
      rw [seA_len] at P6 A6 ⊢
      obtain ⟨y, hy⟩ : ∃ y, prodZ x 5 = y := ⟨_, rfl⟩
      have HY := Lib.hid hy
      rw [hy] at SB
      have P7 := Lib.hid (OwnI.grown P6.out (grown_alloc w6 (.cells #[.int .i64 y] 3) none))
      have N7 := Lib.hid (OwnI.grown N6.out (grown_alloc w6 (.cells #[.int .i64 y] 3) none))
      have G7 := Lib.hid (gAlloc G6.out (.cells #[.int .i64 y] 3))
      clear P6 N6 G6 hy
      go_wp2_with (first | (go_at_call 40; refine (publicOf_any _ _).mono ?_; rintro e w' ⟨rfl, rfl⟩; rw [HY.out]) | (at_builtin; refine app_ints_at rfl (.tmp 28) (.tmp 31) rfl N7.out (one_int _ _) rfl rfl G7.out.size (by rw [LB.out]; simp; omega) ?_; intro v8 w8 o8 g8 a8; refine Hid.out ?_))
      show wpList _ _ _ _ _ _
      have P8 := Lib.hid (Own.apart P7.out g8 A6.out.or)
      have A8 := Lib.hid (Ap.step A6.out (fun k e => (World.ownsRow.lt P7.out k e).2) a8)
      have G8 := Lib.hid (grown_own G7.out N7.out g8 (Nat.le_refl _))
      rw [SB.out] at o8
      have N8 := Lib.hid o8
      clear g8 o8 a8 P7 N7 G7 A6
      obtain ⟨a8, c8, rfl, -, -⟩ := OwnI.shape N8.out
      rw [seB_len] at N8 A8 ⊢
      go_wp2
      go_roundw
      case rel => exact ⟨j + 1, a6, c6, a8, c8, by omega, by go_num, rfl, rfl, P8, N8, A8, G8⟩
      case measure => simp [intOf]; omega
    · have hj1 : j = n := by omega
      subst hj1
      go_wp2
      go_ret2
      exact ⟨_, _, _, _, rfl, (OwnI.ints hp.out).1, (OwnI.ints hn'.out).1, hg.out⟩
end Go.Proofs.Ytedpkhboepahgaa
