/- Drawn paths; what ReplyMake is drawn. -/
import Derived.Test.YtedpkhboepahgaaStep
import Derived.Test.YtedpkhboepahgaaOpen
import Derived.Test.YtedpkhboepahgaaLet
import Derived.WalkKit
import Derived.Lib.Hide
import Derived.Deep.QuietTactic
import Derived.BigQuiet
namespace Go.Proofs.Ytedpkhboepahgaa
open Go.RowKit
theorem app_ints_at {ops : Array Oper} {rest : List Oper} {o : Oper} {a : Act} {Q : Exit → Act → World → Prop} {w : World} (hgd : o.guard = none) (s x : Operand)
    (ho : o.op = .call { callee := .builtin .append, args := #[s, x], argTypes := #[23, 23] })
    {B : Nat} {v : Value} {xs ys : List Int} (hown : OwnI B w v xs) {ao : Option Addr} {m c : Nat} (hr : IntsAt w ao m c ys) (hs : a.eval s = v) (hx : a.eval x = .slice ao m c)
    (hB : B ≤ w.heap.size) (hlen : xs.length + ys.length ≤ 2000000000)
    (h : ∀ v' w', OwnI B w' v' (xs ++ ys) → w.grownBy w' v.ownBlock → (v'.ownBlock = v.ownBlock ∨ v'.ownBlock = some w.heap.size) → wpList Try.prog ops Q rest (a.put o.dst v') w') : wpList Try.prog ops Q (o :: rest) a w :=
  app_own_at 23 3 (.int .i64 0) 8 hgd s x ho Try.underlying23 info_int rfl (by decide) hown hr hs hx (ints_one ys) hB (by rw [List.length_map, List.length_map]; exact hlen) (fun v' w' h1 h2 h3 => h v' w' (by unfold OwnI; rw [List.map_append]; exact h1) h2 h3)
/-- in different blocks -/
def Ap (u v : Value) : Prop := ∀ k, u.ownBlock = some k → v.ownBlock ≠ some k
theorem Ap.symm {u v : Value} (h : Ap u v) : Ap v u := fun k e e2 => h k e2 e
theorem Ap.or {u v : Value} (h : Ap u v) : u.ownBlock = none ∨ u.ownBlock ≠ v.ownBlock := by
  cases e : u.ownBlock with
  | none => exact .inl rfl
  | some k => exact .inr fun e2 => h k e e2.symm
theorem Ap.step {u v v' : Value} {w : World} (h : Ap u v) (hu : ∀ k, u.ownBlock = some k → k < w.heap.size) (hv : v'.ownBlock = v.ownBlock ∨ v'.ownBlock = some w.heap.size) : Ap u v' := by
  intro k e e2
  rcases hv with hv | hv
  · exact h k e (by rw [← hv]; exact e2)
  · rw [hv] at e2
    have := hu k e
    simp only [Option.some.injEq] at e2
    omega
def PathPost (rb c : Nat) (w : World) (e : Ending) (w' : World) : Prop :=
  ∃ ps ns : List Int, ∃ ao n cap bo n' cap', e = .returned (.tuple #[.slice ao n cap, .slice bo n' cap']) ∧ IntsAt w' ao n cap ps ∧ IntsAt w' bo n' cap' ns ∧
    (∀ a, ao = some a → rb < a.block) ∧ (∀ a, bo = some a → rb < a.block) ∧ w.grownBy w' (some rb) ∧ Rdr w' rb c
theorem own_addr {B : Nat} {w : World} {ao : Option Addr} {n cap : Nat} {xs : List Int} (h : OwnI B w (.slice ao n cap) xs) {rb : Nat} (hB : rb < B) : ∀ a, ao = some a → rb < a.block :=
  fun a e => by have := (OwnI.ints h).2.2 a e; omega
set_option maxRecDepth 4000 in
set_option maxHeartbeats 4000000 in
theorem l91Path_any (rb c : Nat) (w : World) (hr : Rdr w rb c) (hc : c ≤ 800000) :
    Calls Try.prog 44 #[.pointer (some ⟨rb, 0, none⟩)] w (PathPost rb (c + 100) w) := by
  have RL := Lib.hid hr.lt
  have P0 := Lib.hid (OwnI.grown (own_nil w.heap.size w (Nat.le_refl _)) (grown_alloc _ (.cells #[] 3) none))
  have N0 : Hid (OwnI w.heap.size ((w.alloc (.cells #[] 3)).alloc (.cells #[] 3)) (.slice (some ⟨w.heap.size + 1, 0, none⟩) 0 0) []) := Lib.hid (own_nil_at (heap_next (by simp)) (by omega))
  have G0 := Lib.hid (show w.grownBy ((w.alloc (.cells #[] 3)).alloc (.cells #[] 3)) (some rb) from gAlloc (grown_alloc _ _ _) _)
  have R0 := Lib.hid ((hr.al (.cells #[] 3)).al (.cells #[] 3))
  clear hr
  go_enter Try.func44, Try.ntmps44
  go_wp2_with fail
  refine (pick_any _ 3 _ _ R0.out (by omega) (by omega) (by omega)).mono ?_
  rintro e w1 ⟨v1, rfl, k1, g1, r1⟩
  have P1 := Lib.hid (OwnI.row P0.out g1 (fun k e => by simp at e; have := RL.out; omega))
  have N1 := Lib.hid (OwnI.row N0.out g1 (fun k e => by simp at e; have := RL.out; omega))
  have G1 := Lib.hid (grown_trans G0.out g1)
  have R1 := Lib.hid r1
  have AP1 : Hid (Ap (.slice (some ⟨w.heap.size, 0, none⟩) 0 0) (.slice (some ⟨w.heap.size + 1, 0, none⟩) 0 0)) := Lib.hid fun k e e2 => by simp [Value.ownBlock] at e e2; omega
  have hv1 : (v1 : Int) ≤ 2 := by omega
  clear g1 r1 P0 N0 G0 R0
  go_wp2
  go_loopw [4, 5, 7] (fun u v q wr => ∃ j : Nat, ∃ ps ns : List Int, ∃ a c0 b d, j ≤ 1 + v1 ∧ q = .int .i64 j ∧ u = .slice a j c0 ∧ v = .slice b j d ∧ ps.length = j ∧ ns.length = j ∧ Hid (OwnI w.heap.size wr u ps) ∧ Hid (OwnI w.heap.size wr v ns) ∧ Hid (Ap u v) ∧ Hid (w.grownBy wr (some rb)) ∧ Hid (Rdr wr rb (c + 1 + j * 3))) (fun _ _ q _ => 1 + v1 - (intOf q).toNat)
  case atStart => exact ⟨0, [], [], _, _, _, _, by omega, rfl, rfl, rfl, rfl, rfl, P1, N1, AP1, G1, Lib.hid (R1.out.mono (by omega))⟩
  case round =>
    clear P1 N1 AP1 G1 R1
    obtain ⟨j, ps, ns, a, c0, b, d, hj, rfl, rfl, rfl, hpl, hnl, hp, hn, hap, hg, hr⟩ := hrel
    have HP := Lib.hid hpl
    have HN := Lib.hid hnl
    clear hpl hnl
    by_cases hlt : (j : Int) < 1 + (v1 : Int)
    · go_wp2_with fail
      refine (l91Good_any rb _ _ hr.out (by omega)).mono ?_
      rintro e w5 ⟨x, rfl, hx, g5, r5⟩
      have P5 := Lib.hid (OwnI.grown (OwnI.row hp.out g5 (fun k e => by simp at e; have := RL.out; omega)) (grown_alloc w5 (.cells #[.int .i64 x] 3) none))
      have N5 := Lib.hid (OwnI.grown (OwnI.row hn.out g5 (fun k e => by simp at e; have := RL.out; omega)) (grown_alloc w5 (.cells #[.int .i64 x] 3) none))
      have G5 := Lib.hid (gAlloc (grown_trans hg.out g5) (.cells #[.int .i64 x] 3))
      have R5 := Lib.hid (r5.al (.cells #[.int .i64 x] 3))
      clear g5 r5 hp hn hg hr hx
      go_wp2_with (at_builtin; refine app_ints_at rfl (.tmp 18) (.tmp 21) rfl P5.out (one_int _ _) rfl rfl G5.out.size (by rw [HP.out]; simp; omega) ?_; intro v6 w6 o6 g6 a6; refine Hid.out ?_)
      show wpList _ _ _ _ _ _
      have N6 := Lib.hid (Own.apart N5.out g6 hap.out.symm.or)
      have A6 := Lib.hid (Ap.symm (Ap.step hap.out.symm (fun k e => (World.ownsRow.lt N5.out k e).2) a6))
      have PB := World.ownsRow.lt P5.out
      have G6 := Lib.hid (grown_own G5.out P5.out g6 (Nat.le_refl _))
      have R6 := Lib.hid (R5.out.row g6 (fun b hb e => by have := (PB b e.symm).1; have := RL.out; omega))
      have P6 := Lib.hid o6
      clear g6 o6 a6 PB P5 N5 G5 R5 hap
      obtain ⟨a6, c6, rfl, -, -⟩ := OwnI.shape P6.out
      rw [show (ps ++ [x]).length = j + 1 by simp [HP.out]] at P6 A6 ⊢
      go_wp2_with fail
      refine (pick_any _ 8 _ _ R6.out (by omega) (by omega) (by omega)).mono ?_
      rintro e w7 ⟨v7, rfl, k7, g7, r7⟩
      have P7 := Lib.hid (OwnI.grown (OwnI.row P6.out g7 (fun k e => by simp at e; have := RL.out; omega)) (grown_alloc w7 (.cells #[.int .i64 v7] 3) none))
      have N7 := Lib.hid (OwnI.grown (OwnI.row N6.out g7 (fun k e => by simp at e; have := RL.out; omega)) (grown_alloc w7 (.cells #[.int .i64 v7] 3) none))
      have G7 := Lib.hid (gAlloc (grown_trans G6.out g7) (.cells #[.int .i64 v7] 3))
      have R7 := Lib.hid (r7.al (.cells #[.int .i64 v7] 3))
      clear g7 r7 P6 N6 G6 R6
      go_wp2_with (at_builtin; refine app_ints_at rfl (.tmp 23) (.tmp 26) rfl N7.out (one_int _ _) rfl rfl G7.out.size (by rw [HN.out]; simp; omega) ?_; intro v8 w8 o8 g8 a8; refine Hid.out ?_)
      show wpList _ _ _ _ _ _
      have P8 := Lib.hid (Own.apart P7.out g8 A6.out.or)
      have A8 := Lib.hid (Ap.step A6.out (fun k e => (World.ownsRow.lt P7.out k e).2) a8)
      have NB := World.ownsRow.lt N7.out
      have G8 := Lib.hid (grown_own G7.out N7.out g8 (Nat.le_refl _))
      have R8 := Lib.hid (R7.out.row g8 (fun b hb e => by have := (NB b e.symm).1; have := RL.out; omega))
      have N8 := Lib.hid o8
      clear g8 o8 a8 NB P7 N7 G7 R7 A6
      obtain ⟨a8, c8, rfl, -, -⟩ := OwnI.shape N8.out
      rw [show (ns ++ [(v7 : Int)]).length = j + 1 by simp [HN.out]] at N8 A8 ⊢
      go_wp2
      go_roundw
      case rel => exact ⟨j + 1, ps ++ [x], ns ++ [(v7 : Int)], a6, c6, a8, c8, by omega, by go_num, rfl, rfl, by simp [HP.out], by simp [HN.out], P8, N8, A8, G8, Lib.hid (R8.out.mono (by omega))⟩
      case measure => simp [intOf]; omega
    · have hj1 : j = 1 + v1 := by omega
      subst hj1
      have P2 := Lib.hid hp.out
      go_wp2_with fail
      refine (pick_any _ 24 _ _ hr.out (by omega) (by omega) (by omega)).mono ?_
      rintro e w5 ⟨v5, rfl, k5, g5, r5⟩
      have P5 := Lib.hid (OwnI.row hp.out g5 (fun k e => by simp at e; have := RL.out; omega))
      have N5 := Lib.hid (OwnI.row hn.out g5 (fun k e => by simp at e; have := RL.out; omega))
      have G5 := Lib.hid (grown_trans hg.out g5)
      have R5 := Lib.hid r5
      have AP := Lib.hid hap.out
      clear g5 r5 hp hn hg hr hap P2
      have hd0 : v5 = 0 ∨ v5 = 1 ∨ v5 = 2 ∨ v5 = 3 ∨ 4 ≤ v5 := by omega
      rcases hd0 with rfl | rfl | rfl | rfl | hv5
      · go_wp2_with fail
        refine (pick_any _ (1 + (v1 : Int)) _ _ R5.out (by omega) (by omega) (by omega)).mono ?_
        rintro e w6 ⟨v6, rfl, k6, g6, r6⟩
        go_wp2_with fail
        refine (l91Is_any rb _ _ r6 (by omega)).mono ?_
        rintro e w7 ⟨x, rfl, hx, g7, r7⟩
        have p7 := OwnI.row P5.out (grown_trans g6 g7) (fun k e => by simp at e; have := RL.out; omega)
        have N7 := Lib.hid (OwnI.row N5.out (grown_trans g6 g7) (fun k e => by simp at e; have := RL.out; omega))
        have G7 := Lib.hid (grown_trans G5.out (grown_trans g6 g7))
        obtain ⟨g, e1, -, b9, -⟩ := OwnI.at p7 (by have := HP.out; omega)
        subst e1
        obtain ⟨cz, fz, -, hset⟩ := ints_at1 p7 v6 (by have := HP.out; omega)
        have P8 := Lib.hid (hset x)
        have N8 := Lib.hid (Own.apart N7.out (grown_set w7 g v6 (.int .i64 x)) (by have := AP.out.symm.or; simpa [Value.ownBlock] using this))
        have G8 := Lib.hid (gSet G7.out (p := ⟨g, v6, none⟩) b9 (.int .i64 x))
        have R8 := Lib.hid (r7.set (p := ⟨g, v6, none⟩) (by have := RL.out; simp; omega) (.int .i64 x))
        clear g6 g7 r6 r7 hx hset p7 N7 G7
        have i6 : (0 : Int) ≤ (v6 : Int) := by omega
        go_wp2
        go_ret2
        exact ⟨_, _, _, _, _, _, _, _, rfl, (OwnI.ints P8.out).1, (OwnI.ints N8.out).1, own_addr P8.out RL.out, own_addr N8.out RL.out, G8.out, R8.out.mono (by omega)⟩
      · go_wp2_with fail
        refine (pick_any _ (1 + (v1 : Int)) _ _ R5.out (by omega) (by omega) (by omega)).mono ?_
        rintro e w6 ⟨v6, rfl, k6, g6, r6⟩
        go_wp2_with fail
        refine (pick_any _ 2 _ _ r6 (by omega) (by omega) (by omega)).mono ?_
        rintro e w7 ⟨v7, rfl, k7, g7, r7⟩
        have P7 := Lib.hid (OwnI.row P5.out (grown_trans g6 g7) (fun k e => by simp at e; have := RL.out; omega))
        have n7 := OwnI.row N5.out (grown_trans g6 g7) (fun k e => by simp at e; have := RL.out; omega)
        have G7 := Lib.hid (grown_trans G5.out (grown_trans g6 g7))
        obtain ⟨g, e1, -, b9, -⟩ := OwnI.at n7 (by have := HN.out; omega)
        subst e1
        obtain ⟨cz, fz, -, hset⟩ := ints_at1 n7 v6 (by have := HN.out; omega)
        have N8 := Lib.hid (hset ((v7 : Int) * 9 - 1))
        have P8 := Lib.hid (Own.apart P7.out (grown_set w7 g v6 (.int .i64 ((v7 : Int) * 9 - 1))) (by have := AP.out.or; simpa [Value.ownBlock] using this))
        have G8 := Lib.hid (gSet G7.out (p := ⟨g, v6, none⟩) b9 (.int .i64 ((v7 : Int) * 9 - 1)))
        have R8 := Lib.hid (r7.set (p := ⟨g, v6, none⟩) (by have := RL.out; simp; omega) (.int .i64 ((v7 : Int) * 9 - 1)))
        clear g6 g7 r6 r7 hset n7 P7 G7
        have i6 : (0 : Int) ≤ (v6 : Int) := by omega
        go_wp2
        go_ret2
        exact ⟨_, _, _, _, _, _, _, _, rfl, (OwnI.ints P8.out).1, (OwnI.ints N8.out).1, own_addr P8.out RL.out, own_addr N8.out RL.out, G8.out, R8.out.mono (by omega)⟩
      · have P6 := Lib.hid (OwnI.grown P5.out (grown_alloc w5 (.cells #[.int .i64 3] 3) none))
        have N6 := Lib.hid (OwnI.grown N5.out (grown_alloc w5 (.cells #[.int .i64 3] 3) none))
        have G6 := Lib.hid (gAlloc G5.out (.cells #[.int .i64 3] 3))
        have R6 := Lib.hid (R5.out.al (.cells #[.int .i64 3] 3))
        go_wp2_with (at_builtin; refine app_ints rfl (.tmp 52) (.tmp 53) rfl P6.out (one_int _ _) rfl rfl G6.out.size (by rw [HP.out]; simp; omega) ?_; intro v7 w7 o7 g7; refine Hid.out ?_)
        show wpList _ _ _ _ _ _
        have P7 := Lib.hid o7
        have N7 := Lib.hid (Own.apart N6.out g7 AP.out.symm.or)
        have PB := World.ownsRow.lt P6.out
        have G7 := Lib.hid (grown_own G6.out P6.out g7 (Nat.le_refl _))
        have R7 := Lib.hid (R6.out.row g7 (fun b hb e => by have := (PB b e.symm).1; have := RL.out; omega))
        clear o7 g7 PB
        obtain ⟨a7, c7, rfl, -, -⟩ := OwnI.shape P7.out
        go_wp2
        go_ret2
        exact ⟨_, _, _, _, _, _, _, _, rfl, (OwnI.ints P7.out).1, (OwnI.ints N7.out).1, own_addr P7.out RL.out, own_addr N7.out RL.out, G7.out, R7.out.mono (by omega)⟩
      · have c00 : (0 : Int) ≤ c0 := by omega
        have d00 : (0 : Int) ≤ d := by omega
        go_wp2
        go_ret2
        exact ⟨[], [], _, _, _, _, _, _, rfl, (OwnI.ints P5.out).1.pre 0 (by omega), (OwnI.ints N5.out).1.pre 0 (by omega), own_addr P5.out RL.out, own_addr N5.out RL.out, G5.out, R5.out.mono (by omega)⟩
      · have n0 : ((v5 : Int) == 0) = false := by simp; omega
        have n1 : ((v5 : Int) == 1) = false := by simp; omega
        have n2 : ((v5 : Int) == 2) = false := by simp; omega
        have n3 : ((v5 : Int) == 3) = false := by simp; omega
        go_wp2
        go_ret2
        exact ⟨_, _, _, _, _, _, _, _, rfl, (OwnI.ints P5.out).1, (OwnI.ints N5.out).1, own_addr P5.out RL.out, own_addr N5.out RL.out, G5.out, R5.out.mono (by omega)⟩
end Go.Proofs.Ytedpkhboepahgaa
