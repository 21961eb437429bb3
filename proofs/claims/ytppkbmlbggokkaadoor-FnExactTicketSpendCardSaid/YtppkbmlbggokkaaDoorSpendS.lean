/- The reference's TicketSpend. -/
import Derived.Test.YtppkbmlbggokkaaDoorSpendT
import Derived.WalkKit
import Derived.Lib.Hide
import Derived.Deep.QuietTactic
import Derived.BigQuiet
import Derived.Deep.RegionLaw
namespace Go.Proofs.YtppkbmlbggokkaaDoor
open Go.RowKit
theorem one_int_at (w : World) (z : Int) (n : Nat) (h : w.heap.size = n) : IntsAt (w.alloc (.cells #[.int .i64 z] 3)) (some ⟨n, 0, none⟩) 1 1 [z] := h ▸ one_int w z
theorem step_ints {ops : Array Oper} {o : Oper} {a : Act} {K : Act → World → Prop} {Q : Exit → Act → World → Prop} {E : Prop} {w : World} (hgd : o.guard = none) (s x : Operand)
    (ho : o.op = .call { callee := .builtin .append, args := #[s, x], argTypes := #[23, 23] })
    {B : Nat} {v : Value} {xs ys : List Int} (hown : OwnI B w v xs) {ao : Option Addr} {m c : Nat} (hr : IntsAt w ao m c ys) (hs : a.eval s = v) (hx : a.eval x = .slice ao m c)
    (hB : B ≤ w.heap.size) (hlen : xs.length + ys.length ≤ 2000000000)
    (h : ∀ v' w', OwnI B w' v' (xs ++ ys) → w.grownBy w' v.ownBlock → K (a.put o.dst v') w') :
    if Region.wanted o (yielded ops a.tmps) = true then Oper.wp Tryd.prog o a w K Q else E := by
  have hw : Region.wanted o (yielded ops a.tmps) = true := by simp [Region.wanted, hgd]
  rw [if_pos hw]
  obtain ⟨i, hi1, hi2, hi3, hi4⟩ := info_parts info_int
  have hm := hr.len
  cases ao with
  | none =>
    obtain ⟨rfl, rfl⟩ := RowAt.nil hr rfl
    have hd : ys = [] := List.eq_nil_of_length_eq_zero hm
    subst hd
    have hrun := run_append_owned_none (P := Tryd.prog) (w := w) B 23 o.type 3 i 1 Tryd.underlying23 hi1 v _ _ hown
    unfold Oper.wp execOp
    simp only [ho, resolve, invoke, builtin, Sem.run_bind, Sem.run_pure, Result.andThen_ok, List.map_toArray, List.map_cons, List.map_nil, hs, hx, hrun]
    exact h v w (by rw [List.append_nil]; exact hown) (grown_refl _ _)
  | some ad =>
    obtain ⟨v', w', hrun, h2, h3, _, h5⟩ := run_append_own_at (P := Tryd.prog) w B 23 o.type 3 i (.int .i64 0) 1 8 Tryd.underlying23 hi1 hi2 hi3 hi4 rfl (by decide) v _ (xs.map (Value.int .i64)) hown ad m c (ys.map (Value.int .i64)) (by rw [List.length_map]; omega) (fun j u hu => by
      rcases RowAt.cells hr with e | ⟨b, off, e, _, hc⟩
      · have := (List.getElem?_eq_some_iff.1 hu).1
        rw [List.length_map] at this; omega
      · simp only [Option.some.injEq] at e
        subst e
        have := hc j u hu
        simpa [Addr.add_lit] using this) (ints_one ys) (by rw [List.length_map]; simp only [maxLen]; omega) (by rw [List.length_map]; omega) hB
    unfold Oper.wp execOp
    simp only [ho, resolve, invoke, builtin, Sem.run_bind, Sem.run_pure, Result.andThen_ok, List.map_toArray, List.map_cons, List.map_nil, hs, hx, hrun]
    refine h v' w' ?_ h3
    unfold OwnI Own
    rw [List.map_append, List.length_append, List.length_map, List.length_map, hm]
    rw [List.length_map] at h2
    exact h2
theorem own_nil_at {B N : Nat} {w : World} (h : w.heap[N]? = some (.cells #[] 3)) (hB : B ≤ N) : OwnI B w (.slice (some ⟨N, 0, none⟩) 0 0) [] :=
  ⟨rfl, .inr ⟨N, 0, #[], rfl, hB, h, Nat.le_refl _, by omega, rfl, rfl⟩⟩
theorem one_cell_ints {w : World} {N : Nat} {z : Int} (h : w.cell? ⟨N, 0, none⟩ = some (.int .i64 z)) : IntsAt w (some ⟨N, 0, none⟩) 1 1 [z] :=
  ⟨rfl, Nat.le_refl _, by omega, by simp, .inr ⟨N, 0, rfl, World.block_lt_of_cell? w _ h, fun i v hv => by
    cases i with
    | zero => simp at hv; subst hv; exact h
    | succ i => simp at hv⟩⟩
theorem cell_next {w w' : World} {N : Nat} {cs : Array Value} {e : TypeId} {v : Value} (hN : w.heap.size = N) (g : (w.alloc (.cells cs e)).grownBy w' none) (h : cs[0]? = some v) : w'.cell? ⟨N, 0, none⟩ = some v := hN ▸ cellN g 0 h
theorem heap_next {w : World} {N : Nat} {o : Obj} (hN : w.heap.size = N) : (w.alloc o).heap[N]? = some o := hN ▸ heap_alloc_new w o
theorem ints_empty {w : World} {ao : Option Addr} {c : Nat} (hc : c ≤ 9223372036854775807) (hn : ao = none → c = 0) : IntsAt w ao 0 c [] :=
  ⟨rfl, Nat.zero_le _, hc, fun e => ⟨rfl, hn e⟩, .inl rfl⟩
theorem IntsAt.pre {w : World} {ao : Option Addr} {n cap : Nat} {xs : List Int} (h : IntsAt w ao n cap xs) (k : Nat) (hk : k ≤ n) : IntsAt w ao k cap (xs.take k) := by
  have hl := h.len
  refine ⟨by simp; omega, by have := RowAt.le h; omega, RowAt.max h, fun e => by have := RowAt.nil h e; omega, ?_⟩
  rcases RowAt.cells h with e | ⟨b, off, e, hb, hc⟩
  · exact .inl (by omega)
  · refine .inr ⟨b, off, e, hb, fun i v hv => hc i v ?_⟩
    rw [List.map_take, List.getElem?_take] at hv
    split at hv
    · exact hv
    · cases hv
theorem IntsAt.post {w : World} {b off n cap : Nat} {xs : List Int} (h : IntsAt w (some ⟨b, off, none⟩) n cap xs) (k : Nat) (hk : k ≤ n) (hc0 : k < cap) : IntsAt w (some ⟨b, off + k, none⟩) (n - k) (cap - k) (xs.drop k) := by
  have hl := h.len
  refine ⟨by simp; omega, by have := RowAt.le h; omega, by have := RowAt.max h; omega, by simp, ?_⟩
  rcases RowAt.cells h with e | ⟨b', off', e, hb, hc⟩
  · exact .inl (by omega)
  · simp only [Option.some.injEq, Addr.mk.injEq, and_true] at e
    obtain ⟨rfl, rfl⟩ := e
    by_cases h0 : n - k = 0
    · exact .inl h0
    · refine .inr ⟨b, off + k, rfl, hb, fun i v hv => ?_⟩
      rw [List.map_drop, List.getElem?_drop] at hv
      have := hc (k + i) v hv
      rw [Nat.add_assoc]
      exact this
set_option maxHeartbeats 8000000 in
theorem ticketSpendS_any (w : World) (ao : Option Addr) (n cap : Nat) (xs : List Int) (p s g : Int) (h : IntsAt w ao n cap xs) (hn : n ≤ 2000000) :
    Calls Tryd.prog 12 #[.slice ao n cap, .int .i64 p, .agg #[.int .i64 s, .int .i64 g]] w (TSpend w xs p s g) := by
  have HA := Lib.hid h
  have HN := Lib.hid h.len
  have hm := RowAt.max h
  have hnc := RowAt.le h
  have G0 := Lib.hid (grown_alloc w (.cells #[.int .i64 s, .int .i64 g] 25) none)
  have A1 := Lib.hid (HA.out.grown G0.out)
  have D1 := Lib.hid (show (w.alloc (.cells #[.int .i64 s, .int .i64 g] 25)).heap[w.heap.size]? = some (.cells #[.int .i64 s, .int .i64 g] 25) from heap_alloc_new w _)
  have cs := blkC D1.out 0 rfl
  have cg := blkC D1.out 1 rfl
  clear h
  go_enter Tryd.func12, Tryd.ntmps12
  go_wp2_with fail
  refine (l31Spent_any _ _ _ _ xs A1.out).mono ?_
  rintro e w1 ⟨rfl, d1, hd1⟩
  have g1 : w.grownBy w1 none := by rw [hd1]; exact gDrewN G0.out _
  have D2 := Lib.hid (show w1.heap[w.heap.size]? = some (.cells #[.int .i64 s, .int .i64 g] 25) by rw [hd1]; exact D1.out)
  have A2 := Lib.hid (HA.out.grown g1)
  have G1 := Lib.hid g1
  clear hd1 g1 cs cg
  by_cases hs : SpentP xs
  case neg =>
    rw [pb_false hs]
    have NS := Lib.hid hs
    have P1 := Lib.hid (Own.lower (own_nil w1.heap.size w1 (Nat.le_refl _)) G1.out.size)
    clear hs
    go_wp2_with fail
    go_ret2
    exact tspend_bad NS.out P1.out (gAlloc G1.out _)
  rw [pb_true hs]
  have HS := Lib.hid hs
  clear hs
  have P1 := Lib.hid (own_nil w1.heap.size w1 (Nat.le_refl _))
  go_wp2_with (at_builtin; refine app_ints rfl (.tmp 14) (.tmp 15) rfl P1.out (A2.out.grown (grown_alloc _ _ _)) rfl rfl (by simp) (by rw [HN.out]; simp; omega) ?_; intro v3 w3 o3 g3; refine Hid.out ?_)
  show wpList _ _ _ _ _ _
  rw [List.nil_append] at o3
  have g3' := grown_own (grown_alloc w1 (.cells #[] 3) none) P1.out g3 (Nat.le_refl _)
  have O3 := Lib.hid (Own.lower o3 G1.out.size)
  have G3 := Lib.hid (grown_trans G1.out g3')
  have A3 := Lib.hid (A2.out.grown g3')
  have D3 := Lib.hid (blkK g3' D2.out (by simp))
  have cs := blkC D3.out 0 rfl
  have cg := blkC D3.out 1 rfl
  clear o3 g3 g3' P1
  go_wp2_with fail
  refine (ticketCheckS_any p s g _).mono ?_
  rintro e w4 ⟨rfl, g4⟩
  have O4 := Lib.hid (OwnI.grown O3.out g4)
  have G4 := Lib.hid (grown_trans G3.out g4)
  have A4 := Lib.hid (A3.out.grown g4)
  have D4 := Lib.hid (blkK g4 D3.out (by simp))
  obtain ⟨a3, c3, rfl, -, -⟩ := OwnI.shape O4.out
  clear g4 cs cg O3 G3 A3
  have cs := blkC D4.out 0 rfl
  have cg := blkC D4.out 1 rfl
  cases ht : tkB p s g
  case false =>
    have NG := Lib.hid (show ¬ GoodP xs p s g from fun e => by have := e.1.1; rw [ht] at this; cases this)
    clear ht
    have SL := Lib.hid (spL_no HS.out NG.out)
    have PB := Lib.hid (show pb (SpendP xs p s g) = false from pb_false fun e => NG.out e.2)
    go_wp2_with fail
    go_ret2
    exact ⟨a3, c3, by rw [SL.out, PB.out]; rfl, by rw [SL.out]; exact O4.out, G4.out⟩
  case true =>
    go_wp2_with fail
    refine (l1Has_any _ _ _ _ xs s A4.out).mono ?_
    rintro e w5 ⟨rfl, rfl⟩
    by_cases hms : s ∈ xs
    · rw [pb_true hms]
      have NG := Lib.hid (show ¬ GoodP xs p s g from fun e => e.1.2 hms)
      clear ht hms
      have SL := Lib.hid (spL_no HS.out NG.out)
      have PB := Lib.hid (show pb (SpendP xs p s g) = false from pb_false fun e => NG.out e.2)
      go_wp2_with fail
      go_ret2
      exact ⟨a3, c3, by rw [SL.out, PB.out]; rfl, by rw [SL.out]; exact O4.out, G4.out⟩
    · rw [pb_false hms]
      by_cases h20 : (20 : Int) ≤ n
      · have NG := Lib.hid (show ¬ GoodP xs p s g from fun e => by have := e.2; have := HN.out; omega)
        clear ht hms
        have SL := Lib.hid (spL_no HS.out NG.out)
        have PB := Lib.hid (show pb (SpendP xs p s g) = false from pb_false fun e => NG.out e.2)
        go_wp2_with fail
        go_ret2
        exact ⟨a3, c3, by rw [SL.out, PB.out]; rfl, by rw [SL.out]; exact O4.out, G4.out⟩
      · have GP := Lib.hid (show GoodP xs p s g from ⟨⟨ht, hms⟩, by rw [HN.out]; omega⟩)
        have SL := Lib.hid (spL_yes HS.out GP.out)
        have PI := Lib.hid (fun j (hj : j < n) => posL_iff s (spent_sorted HS.out) j (by rw [HN.out]; exact hj))
        have PL := posL_le xs s
        rw [HN.out] at PL
        have PB := Lib.hid (show pb (SpendP xs p s g) = true from pb_true ⟨HS.out, GP.out⟩)
        obtain ⟨P, hP⟩ : ∃ P, posL xs s = P := ⟨_, rfl⟩
        have HP := Lib.hid hP
        rw [hP] at PI PL
        clear ht hms hP O4
        go_wp2_with fail
        go_loopw [9] (fun q wr => ∃ k : Nat, k ≤ P ∧ q = .int .i64 k ∧ Hid (∃ d, wr = w4.drewN d)) (fun q _ => n - (intOf q).toNat)
        case atStart => exact ⟨0, by omega, rfl, Lib.hid ⟨0, rfl⟩⟩
        case round =>
          obtain ⟨k, hk, rfl, hd⟩ := hrel
          have gr := drewN_grown hd.out none
          have cs := blkC (blkK gr D4.out (by simp)) 0 rfl
          have cg := blkC (blkK gr D4.out (by simp)) 1 rfl
          by_cases hkn : k < n
          · obtain ⟨b, off, rfl, -, ca⟩ := IntsAt.addr (A4.out.grown gr) (by omega)
            have ck := ca k hkn
            have PK := PI.out k hkn
            obtain ⟨y, hy⟩ : ∃ y, xs.getD k 0 = y := ⟨_, rfl⟩
            rw [hy] at ck PK
            have i0 : (0 : Int) ≤ (k : Int) := by omega
            have i1 : (k : Int) < n := by omega
            have hdg : decide ((k : Int) < (n : Int)) = true := by simpa using i1
            clear ca hy gr
            by_cases hys : y < s
            · have hkP := PK.1 hys
              have hdy : decide (y < s) = true := by simpa using hys
              clear PK
              go_wp2_with fail
              go_quiet (fail)
              go_wp2
              go_roundw
              case rel => exact ⟨k + 1, by omega, by go_num, drewN_more hd _⟩
              case measure => simp [intOf]; omega
            · have hkP := Lib.hid (show k = P by
                have : ¬ k < P := fun e => hys (PK.2 e)
                omega)
              have hdy : decide (y < s) = false := by simpa using hys
              clear PK
              go_wp2_with fail
              go_quiet (fail)
              have hcap : ¬ cap = k := by omega
              obtain ⟨W, hW⟩ : ∃ W, wr.drewN nq = W := ⟨_, rfl⟩
              have gW := drewN_more hd nq
              rw [hW] at gW ⊢
              have GW := drewN_grown gW none
              have AW := Lib.hid (A4.out.grown GW)
              have GT := Lib.hid (grown_trans G4.out GW)
              have cs := blkC (blkK GW D4.out (by simp)) 0 rfl
              have hkc : ((k : Nat) : Int) ≤ cap := by omega
              have hkn2 : ((k : Nat) : Int) ≤ n := by omega
              have csA := (grown_alloc W (.cells #[] 3) none).cell cs (by simp)
              have LL := Lib.hid (show xs.take (k) ++ [s] ++ xs.drop (k) = insL xs s by unfold insL; rw [HP.out, ← hkP.out, List.append_assoc]; rfl)
              clear hW gW
              go_wp2
              go_region_law (first
                | (refine step_ints (B := W.heap.size) rfl (.tmp 48) (.tmp 51) rfl (own_nil_at (by first | exact heap_alloc_new _ _ | exact blkA (heap_alloc_new _ _) | exact heap_next (w := W.alloc (.cells #[.int .i64 s] 3)) (by simp) | exact heap_next (w := (W.alloc (.cells #[.int .i64 s] 3)).drew) (by simp)) (by simp)) ((AW.out.pre k (by omega)).grown (by (repeat (with_reducible (first | refine gDrew ?_ | refine gDrewN ?_ _ | refine gAlloc ?_ _))); exact grown_refl _ _)) rfl rfl (show W.grownBy _ none from (by (repeat (with_reducible (first | refine gDrew ?_ | refine gDrewN ?_ _ | refine gAlloc ?_ _))); exact grown_refl _ _)).size (by simp; omega) ?_; intro v5 w5 o5 g5; rw [List.nil_append] at o5; have G5 := grown_new (show W.grownBy _ none from (by (repeat (with_reducible (first | refine gDrew ?_ | refine gDrewN ?_ _ | refine gAlloc ?_ _))); exact grown_refl _ _)) g5 (by simp); have cs5 := G5.cell cs (by simp); (try have S5 := one_cell_ints (g5.cell (cell_next (w := W.alloc (.cells #[] 3)) (N := W.heap.size + 1) (cs := #[.int .i64 s]) (e := 3) (by simp) (by first | exact grown_refl _ _ | exact gDrew (grown_refl _ _)) rfl) (by simp [Value.ownBlock]))); (try have S5 := one_cell_ints (g5.cell (cell_next (w := W) (N := W.heap.size) (cs := #[.int .i64 s]) (e := 3) rfl (by first | exact gAlloc (grown_refl _ _) _ | exact gDrew (gAlloc (grown_refl _ _) _) | exact gAlloc (gDrew (grown_refl _ _)) _) rfl) (by simp [Value.ownBlock]))); (try have S5 := one_cell_ints (g5.cell (cell_next (w := (W.alloc (.cells #[] 3)).drew) (N := W.heap.size + 1) (cs := #[.int .i64 s]) (e := 3) (by simp) (by first | exact grown_refl _ _ | exact gDrew (grown_refl _ _)) rfl) (by simp [Value.ownBlock]))))
                | (refine step_ints (B := W.heap.size) rfl (.tmp 52) (.tmp 55) rfl (OwnI.grown o5 (by (repeat (with_reducible (first | refine gDrew ?_ | refine gDrewN ?_ _ | refine gAlloc ?_ _))); exact grown_refl _ _)) (by first | exact one_int_at _ _ _ rfl | exact S5) rfl rfl (grown_trans G5 (by (repeat (with_reducible (first | refine gDrew ?_ | refine gDrewN ?_ _ | refine gAlloc ?_ _))); exact grown_refl _ _)).size (by simp; omega) ?_; intro v6 w6 o6 g6; have G6 := grown_own (grown_trans G5 (by (repeat (with_reducible (first | refine gDrew ?_ | refine gDrewN ?_ _ | refine gAlloc ?_ _))); exact grown_refl _ _)) (OwnI.grown o5 (by (repeat (with_reducible (first | refine gDrew ?_ | refine gDrewN ?_ _ | refine gAlloc ?_ _))); exact grown_refl _ _)) g6 (Nat.le_refl _))
                | (refine step_ints (B := W.heap.size) rfl (.tmp 56) (.tmp 59) rfl (OwnI.grown o6 (by (repeat (with_reducible (first | refine gDrew ?_ | refine gDrewN ?_ _ | refine gAlloc ?_ _))); exact grown_refl _ _)) ((AW.out.post k (by omega) (by omega)).grown (grown_trans G6 (by (repeat (with_reducible (first | refine gDrew ?_ | refine gDrewN ?_ _ | refine gAlloc ?_ _))); exact grown_refl _ _))) rfl rfl (grown_trans G6 (by (repeat (with_reducible (first | refine gDrew ?_ | refine gDrewN ?_ _ | refine gAlloc ?_ _))); exact grown_refl _ _)).size (by have := HN.out; simp; omega) ?_; intro v7 w7 o7 g7; have G7 := grown_own (grown_trans G6 (by (repeat (with_reducible (first | refine gDrew ?_ | refine gDrewN ?_ _ | refine gAlloc ?_ _))); exact grown_refl _ _)) (OwnI.grown o6 (by (repeat (with_reducible (first | refine gDrew ?_ | refine gDrewN ?_ _ | refine gAlloc ?_ _))); exact grown_refl _ _)) g7 (Nat.le_refl _)))
              all_goals (rw [LL.out] at o7; obtain ⟨a7, c7, rfl, -, -⟩ := OwnI.shape o7)
              all_goals go_wp2
              all_goals go_ret2
              all_goals exact ⟨a7, c7, by rw [SL.out, PB.out]; rfl, by rw [SL.out]; exact Own.lower o7 GT.out.size, grown_trans GT.out G7⟩
          · have hkP := Lib.hid (show k = P by omega)
            have hdg : decide ((k : Int) < (n : Int)) = false := by simp; omega
            have hkn3 : n = k := by omega
            subst hkn3
            clear gr
            go_wp2_with fail
            go_quiet (fail)
            by_cases hcap : cap = n
            · have hc2 : n = cap := hcap.symm
              subst hc2
              obtain ⟨W, hW⟩ : ∃ W, wr.drewN nq = W := ⟨_, rfl⟩
              have gW := drewN_more hd nq
              rw [hW] at gW ⊢
              have GW := drewN_grown gW none
              have AW := Lib.hid (A4.out.grown GW)
              have GT := Lib.hid (grown_trans G4.out GW)
              have cs := blkC (blkK GW D4.out (by simp)) 0 rfl
              have hkc : ((n : Nat) : Int) ≤ n := by omega
              have hkn2 : ((n : Nat) : Int) ≤ n := by omega
              have csA := (grown_alloc W (.cells #[] 3) none).cell cs (by simp)
              have LL := Lib.hid (show xs.take (n) ++ [s] ++ xs.drop (n) = insL xs s by unfold insL; rw [HP.out, ← hkP.out, List.append_assoc]; rfl)
              clear hW gW
              go_wp2
              go_region_law (first
                | (refine step_ints (B := W.heap.size) rfl (.tmp 48) (.tmp 51) rfl (own_nil_at (by first | exact heap_alloc_new _ _ | exact blkA (heap_alloc_new _ _) | exact heap_next (w := W.alloc (.cells #[.int .i64 s] 3)) (by simp) | exact heap_next (w := (W.alloc (.cells #[.int .i64 s] 3)).drew) (by simp)) (by simp)) ((AW.out.pre n (by omega)).grown (by (repeat (with_reducible (first | refine gDrew ?_ | refine gDrewN ?_ _ | refine gAlloc ?_ _))); exact grown_refl _ _)) rfl rfl (show W.grownBy _ none from (by (repeat (with_reducible (first | refine gDrew ?_ | refine gDrewN ?_ _ | refine gAlloc ?_ _))); exact grown_refl _ _)).size (by simp; omega) ?_; intro v5 w5 o5 g5; rw [List.nil_append] at o5; have G5 := grown_new (show W.grownBy _ none from (by (repeat (with_reducible (first | refine gDrew ?_ | refine gDrewN ?_ _ | refine gAlloc ?_ _))); exact grown_refl _ _)) g5 (by simp); have cs5 := G5.cell cs (by simp); (try have S5 := one_cell_ints (g5.cell (cell_next (w := W.alloc (.cells #[] 3)) (N := W.heap.size + 1) (cs := #[.int .i64 s]) (e := 3) (by simp) (by first | exact grown_refl _ _ | exact gDrew (grown_refl _ _)) rfl) (by simp [Value.ownBlock]))); (try have S5 := one_cell_ints (g5.cell (cell_next (w := W) (N := W.heap.size) (cs := #[.int .i64 s]) (e := 3) rfl (by first | exact gAlloc (grown_refl _ _) _ | exact gDrew (gAlloc (grown_refl _ _) _) | exact gAlloc (gDrew (grown_refl _ _)) _) rfl) (by simp [Value.ownBlock]))); (try have S5 := one_cell_ints (g5.cell (cell_next (w := (W.alloc (.cells #[] 3)).drew) (N := W.heap.size + 1) (cs := #[.int .i64 s]) (e := 3) (by simp) (by first | exact grown_refl _ _ | exact gDrew (grown_refl _ _)) rfl) (by simp [Value.ownBlock]))))
                | (refine step_ints (B := W.heap.size) rfl (.tmp 52) (.tmp 55) rfl (OwnI.grown o5 (by (repeat (with_reducible (first | refine gDrew ?_ | refine gDrewN ?_ _ | refine gAlloc ?_ _))); exact grown_refl _ _)) (by first | exact one_int_at _ _ _ rfl | exact S5) rfl rfl (grown_trans G5 (by (repeat (with_reducible (first | refine gDrew ?_ | refine gDrewN ?_ _ | refine gAlloc ?_ _))); exact grown_refl _ _)).size (by simp; omega) ?_; intro v6 w6 o6 g6; have G6 := grown_own (grown_trans G5 (by (repeat (with_reducible (first | refine gDrew ?_ | refine gDrewN ?_ _ | refine gAlloc ?_ _))); exact grown_refl _ _)) (OwnI.grown o5 (by (repeat (with_reducible (first | refine gDrew ?_ | refine gDrewN ?_ _ | refine gAlloc ?_ _))); exact grown_refl _ _)) g6 (Nat.le_refl _))
                | (refine step_ints (B := W.heap.size) rfl (.tmp 56) (.tmp 59) rfl (OwnI.grown o6 (by (repeat (with_reducible (first | refine gDrew ?_ | refine gDrewN ?_ _ | refine gAlloc ?_ _))); exact grown_refl _ _)) (((by rw [List.drop_eq_nil_iff.2 (show xs.length ≤ n by rw [HN.out]; exact Nat.le_refl _)]; first | exact ints_empty (by omega) (by simp) | exact ints_empty (by omega) (fun e => by rfl) : IntsAt W _ _ _ (xs.drop n))).grown (grown_trans G6 (by (repeat (with_reducible (first | refine gDrew ?_ | refine gDrewN ?_ _ | refine gAlloc ?_ _))); exact grown_refl _ _))) rfl rfl (grown_trans G6 (by (repeat (with_reducible (first | refine gDrew ?_ | refine gDrewN ?_ _ | refine gAlloc ?_ _))); exact grown_refl _ _)).size (by have := HN.out; simp; omega) ?_; intro v7 w7 o7 g7; have G7 := grown_own (grown_trans G6 (by (repeat (with_reducible (first | refine gDrew ?_ | refine gDrewN ?_ _ | refine gAlloc ?_ _))); exact grown_refl _ _)) (OwnI.grown o6 (by (repeat (with_reducible (first | refine gDrew ?_ | refine gDrewN ?_ _ | refine gAlloc ?_ _))); exact grown_refl _ _)) g7 (Nat.le_refl _)))
              all_goals (rw [LL.out] at o7; obtain ⟨a7, c7, rfl, -, -⟩ := OwnI.shape o7)
              all_goals go_wp2
              all_goals go_ret2
              all_goals exact ⟨a7, c7, by rw [SL.out, PB.out]; rfl, by rw [SL.out]; exact Own.lower o7 GT.out.size, grown_trans GT.out G7⟩
            · obtain ⟨W, hW⟩ : ∃ W, wr.drewN nq = W := ⟨_, rfl⟩
              have gW := drewN_more hd nq
              rw [hW] at gW ⊢
              have GW := drewN_grown gW none
              have AW := Lib.hid (A4.out.grown GW)
              have GT := Lib.hid (grown_trans G4.out GW)
              have cs := blkC (blkK GW D4.out (by simp)) 0 rfl
              have hkc : ((n : Nat) : Int) ≤ cap := by omega
              have hkn2 : ((n : Nat) : Int) ≤ n := by omega
              have csA := (grown_alloc W (.cells #[] 3) none).cell cs (by simp)
              have LL := Lib.hid (show xs.take (n) ++ [s] ++ xs.drop (n) = insL xs s by unfold insL; rw [HP.out, ← hkP.out, List.append_assoc]; rfl)
              clear hW gW
              go_wp2
              go_region_law (first
                | (refine step_ints (B := W.heap.size) rfl (.tmp 48) (.tmp 51) rfl (own_nil_at (by first | exact heap_alloc_new _ _ | exact blkA (heap_alloc_new _ _) | exact heap_next (w := W.alloc (.cells #[.int .i64 s] 3)) (by simp) | exact heap_next (w := (W.alloc (.cells #[.int .i64 s] 3)).drew) (by simp)) (by simp)) ((AW.out.pre n (by omega)).grown (by (repeat (with_reducible (first | refine gDrew ?_ | refine gDrewN ?_ _ | refine gAlloc ?_ _))); exact grown_refl _ _)) rfl rfl (show W.grownBy _ none from (by (repeat (with_reducible (first | refine gDrew ?_ | refine gDrewN ?_ _ | refine gAlloc ?_ _))); exact grown_refl _ _)).size (by simp; omega) ?_; intro v5 w5 o5 g5; rw [List.nil_append] at o5; have G5 := grown_new (show W.grownBy _ none from (by (repeat (with_reducible (first | refine gDrew ?_ | refine gDrewN ?_ _ | refine gAlloc ?_ _))); exact grown_refl _ _)) g5 (by simp); have cs5 := G5.cell cs (by simp); (try have S5 := one_cell_ints (g5.cell (cell_next (w := W.alloc (.cells #[] 3)) (N := W.heap.size + 1) (cs := #[.int .i64 s]) (e := 3) (by simp) (by first | exact grown_refl _ _ | exact gDrew (grown_refl _ _)) rfl) (by simp [Value.ownBlock]))); (try have S5 := one_cell_ints (g5.cell (cell_next (w := W) (N := W.heap.size) (cs := #[.int .i64 s]) (e := 3) rfl (by first | exact gAlloc (grown_refl _ _) _ | exact gDrew (gAlloc (grown_refl _ _) _) | exact gAlloc (gDrew (grown_refl _ _)) _) rfl) (by simp [Value.ownBlock]))); (try have S5 := one_cell_ints (g5.cell (cell_next (w := (W.alloc (.cells #[] 3)).drew) (N := W.heap.size + 1) (cs := #[.int .i64 s]) (e := 3) (by simp) (by first | exact grown_refl _ _ | exact gDrew (grown_refl _ _)) rfl) (by simp [Value.ownBlock]))))
                | (refine step_ints (B := W.heap.size) rfl (.tmp 52) (.tmp 55) rfl (OwnI.grown o5 (by (repeat (with_reducible (first | refine gDrew ?_ | refine gDrewN ?_ _ | refine gAlloc ?_ _))); exact grown_refl _ _)) (by first | exact one_int_at _ _ _ rfl | exact S5) rfl rfl (grown_trans G5 (by (repeat (with_reducible (first | refine gDrew ?_ | refine gDrewN ?_ _ | refine gAlloc ?_ _))); exact grown_refl _ _)).size (by simp; omega) ?_; intro v6 w6 o6 g6; have G6 := grown_own (grown_trans G5 (by (repeat (with_reducible (first | refine gDrew ?_ | refine gDrewN ?_ _ | refine gAlloc ?_ _))); exact grown_refl _ _)) (OwnI.grown o5 (by (repeat (with_reducible (first | refine gDrew ?_ | refine gDrewN ?_ _ | refine gAlloc ?_ _))); exact grown_refl _ _)) g6 (Nat.le_refl _))
                | (refine step_ints (B := W.heap.size) rfl (.tmp 56) (.tmp 59) rfl (OwnI.grown o6 (by (repeat (with_reducible (first | refine gDrew ?_ | refine gDrewN ?_ _ | refine gAlloc ?_ _))); exact grown_refl _ _)) (((by rw [List.drop_eq_nil_iff.2 (show xs.length ≤ n by rw [HN.out]; exact Nat.le_refl _)]; first | exact ints_empty (by omega) (fun e => by have := RowAt.nil HA.out (by simpa using e); omega) : IntsAt W _ _ _ (xs.drop n))).grown (grown_trans G6 (by (repeat (with_reducible (first | refine gDrew ?_ | refine gDrewN ?_ _ | refine gAlloc ?_ _))); exact grown_refl _ _))) rfl rfl (grown_trans G6 (by (repeat (with_reducible (first | refine gDrew ?_ | refine gDrewN ?_ _ | refine gAlloc ?_ _))); exact grown_refl _ _)).size (by have := HN.out; simp; omega) ?_; intro v7 w7 o7 g7; have G7 := grown_own (grown_trans G6 (by (repeat (with_reducible (first | refine gDrew ?_ | refine gDrewN ?_ _ | refine gAlloc ?_ _))); exact grown_refl _ _)) (OwnI.grown o6 (by (repeat (with_reducible (first | refine gDrew ?_ | refine gDrewN ?_ _ | refine gAlloc ?_ _))); exact grown_refl _ _)) g7 (Nat.le_refl _)))
              all_goals (rw [LL.out] at o7; obtain ⟨a7, c7, rfl, -, -⟩ := OwnI.shape o7)
              all_goals go_wp2
              all_goals go_ret2
              all_goals exact ⟨a7, c7, by rw [SL.out, PB.out]; rfl, by rw [SL.out]; exact Own.lower o7 GT.out.size, grown_trans GT.out G7⟩
end Go.Proofs.YtppkbmlbggokkaaDoor
