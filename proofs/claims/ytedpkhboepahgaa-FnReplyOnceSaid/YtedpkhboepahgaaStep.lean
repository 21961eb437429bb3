/- Appends inside a region that draws; parts of slices. -/
import Derived.Test.YtedpkhboepahgaaInts
import Derived.WalkKit
import Derived.Lib.Hide
import Derived.Deep.QuietTactic
import Derived.BigQuiet
import Derived.Deep.RegionLaw
namespace Go.Proofs.Ytedpkhboepahgaa
open Go.RowKit
theorem one_int_at (w : World) (z : Int) (n : Nat) (h : w.heap.size = n) : IntsAt (w.alloc (.cells #[.int .i64 z] 3)) (some ⟨n, 0, none⟩) 1 1 [z] := h ▸ one_int w z
theorem step_ints {ops : Array Oper} {o : Oper} {a : Act} {K : Act → World → Prop} {Q : Exit → Act → World → Prop} {E : Prop} {w : World} (hgd : o.guard = none) (s x : Operand)
    (ho : o.op = .call { callee := .builtin .append, args := #[s, x], argTypes := #[23, 23] })
    {B : Nat} {v : Value} {xs ys : List Int} (hown : OwnI B w v xs) {ao : Option Addr} {m c : Nat} (hr : IntsAt w ao m c ys) (hs : a.eval s = v) (hx : a.eval x = .slice ao m c)
    (hB : B ≤ w.heap.size) (hlen : xs.length + ys.length ≤ 2000000000)
    (h : ∀ v' w', OwnI B w' v' (xs ++ ys) → w.grownBy w' v.ownBlock → K (a.put o.dst v') w') :
    if Region.wanted o (yielded ops a.tmps) = true then Oper.wp Try.prog o a w K Q else E := by
  have hw : Region.wanted o (yielded ops a.tmps) = true := by simp [Region.wanted, hgd]
  rw [if_pos hw]
  obtain ⟨i, hi1, hi2, hi3, hi4⟩ := info_parts info_int
  have hm := hr.len
  cases ao with
  | none =>
    obtain ⟨rfl, rfl⟩ := RowAt.nil hr rfl
    have hd : ys = [] := List.eq_nil_of_length_eq_zero hm
    subst hd
    have hrun := run_append_owned_none (P := Try.prog) (w := w) B 23 o.type 3 i 1 Try.underlying23 hi1 v _ _ hown
    unfold Oper.wp execOp
    simp only [ho, resolve, invoke, builtin, Sem.run_bind, Sem.run_pure, Result.andThen_ok, List.map_toArray, List.map_cons, List.map_nil, hs, hx, hrun]
    exact h v w (by rw [List.append_nil]; exact hown) (grown_refl _ _)
  | some ad =>
    obtain ⟨v', w', hrun, h2, h3, _, h5⟩ := run_append_own_at (P := Try.prog) w B 23 o.type 3 i (.int .i64 0) 1 8 Try.underlying23 hi1 hi2 hi3 hi4 rfl (by decide) v _ (xs.map (Value.int .i64)) hown ad m c (ys.map (Value.int .i64)) (by rw [List.length_map]; omega) (fun j u hu => by
      rcases RowAt.cells hr with e | ⟨b, off, e, _, hc⟩
      · have := (List.getElem?_eq_some_iff.1 hu).1
        rw [List.length_map] at this; omega
      · simp only [Option.some.injEq] at e
        subst e
        have := hc j u hu
        simpa [Addr.add_lit] using this) (ints_one ys) (by rw [List.length_map]; simp only [maxLen]; omega) (by rw [List.length_map]; omega) hB
    unfold Oper.wp execOp
    simp only [ho, resolve, invoke, builtin, Sem.run_bind, Sem.run_pure, Result.andThen_ok, List.map_toArray, List.map_cons, List.map_nil, hs, hx, hrun]
    refine h v' w' ?_ h3
    unfold OwnI Own
    rw [List.map_append, List.length_append, List.length_map, List.length_map, hm]
    rw [List.length_map] at h2
    exact h2
theorem own_nil_at {B N : Nat} {w : World} (h : w.heap[N]? = some (.cells #[] 3)) (hB : B ≤ N) : OwnI B w (.slice (some ⟨N, 0, none⟩) 0 0) [] :=
  ⟨rfl, .inr ⟨N, 0, #[], rfl, hB, h, Nat.le_refl _, by omega, rfl, rfl⟩⟩
theorem one_cell_ints {w : World} {N : Nat} {z : Int} (h : w.cell? ⟨N, 0, none⟩ = some (.int .i64 z)) : IntsAt w (some ⟨N, 0, none⟩) 1 1 [z] :=
  ⟨rfl, Nat.le_refl _, by omega, by simp, .inr ⟨N, 0, rfl, World.block_lt_of_cell? w _ h, fun i v hv => by
    cases i with
    | zero => simp at hv; subst hv; exact h
    | succ i => simp at hv⟩⟩
theorem cell_next {w w' : World} {N : Nat} {cs : Array Value} {e : TypeId} {v : Value} (hN : w.heap.size = N) (g : (w.alloc (.cells cs e)).grownBy w' none) (h : cs[0]? = some v) : w'.cell? ⟨N, 0, none⟩ = some v := hN ▸ cellN g 0 h
theorem heap_next {w : World} {N : Nat} {o : Obj} (hN : w.heap.size = N) : (w.alloc o).heap[N]? = some o := hN ▸ heap_alloc_new w o
theorem ints_empty {w : World} {ao : Option Addr} {c : Nat} (hc : c ≤ 9223372036854775807) (hn : ao = none → c = 0) : IntsAt w ao 0 c [] :=
  ⟨rfl, Nat.zero_le _, hc, fun e => ⟨rfl, hn e⟩, .inl rfl⟩
theorem IntsAt.pre {w : World} {ao : Option Addr} {n cap : Nat} {xs : List Int} (h : IntsAt w ao n cap xs) (k : Nat) (hk : k ≤ n) : IntsAt w ao k cap (xs.take k) := by
  have hl := h.len
  refine ⟨by simp; omega, by have := RowAt.le h; omega, RowAt.max h, fun e => by have := RowAt.nil h e; omega, ?_⟩
  rcases RowAt.cells h with e | ⟨b, off, e, hb, hc⟩
  · exact .inl (by omega)
  · refine .inr ⟨b, off, e, hb, fun i v hv => hc i v ?_⟩
    rw [List.map_take, List.getElem?_take] at hv
    split at hv
    · exact hv
    · cases hv
theorem IntsAt.post {w : World} {b off n cap : Nat} {xs : List Int} (h : IntsAt w (some ⟨b, off, none⟩) n cap xs) (k : Nat) (hk : k ≤ n) (hc0 : k < cap) : IntsAt w (some ⟨b, off + k, none⟩) (n - k) (cap - k) (xs.drop k) := by
  have hl := h.len
  refine ⟨by simp; omega, by have := RowAt.le h; omega, by have := RowAt.max h; omega, by simp, ?_⟩
  rcases RowAt.cells h with e | ⟨b', off', e, hb, hc⟩
  · exact .inl (by omega)
  · simp only [Option.some.injEq, Addr.mk.injEq, and_true] at e
    obtain ⟨rfl, rfl⟩ := e
    by_cases h0 : n - k = 0
    · exact .inl h0
    · refine .inr ⟨b, off + k, rfl, hb, fun i v hv => ?_⟩
      rw [List.map_drop, List.getElem?_drop] at hv
      have := hc (k + i) v hv
      rw [Nat.add_assoc]
      exact this
theorem cell_ad {w : World} {p : Addr} {v : Value} {o : Obj} (h : w.cell? p = some v) : (w.alloc o).drew.cell? p = some v := (gDrew (gAlloc (grown_refl w none) o)).cell h (by simp)
theorem ints_at1 {B : Nat} {w : World} {g : Nat} {n cap : Nat} {xs : List Int} (h : OwnI B w (.slice (some ⟨g, 0, none⟩) n cap) xs) (k : Nat) (hk : k < xs.length) :
    w.cell? ⟨g, k, none⟩ = some (.int .i64 (xs.getD k 0)) ∧ w.frozen? ⟨g, k, none⟩ = false ∧ B ≤ g ∧ ∀ x, OwnI B (w.setCell ⟨g, k, none⟩ (.int .i64 x)) (.slice (some ⟨g, 0, none⟩) n cap) (xs.set k x) := by
  obtain ⟨g', e1, _, hB, _, hc, hf, hs⟩ := OwnI.at h (by omega)
  simp only [Option.some.injEq, Addr.mk.injEq, and_true] at e1
  subst e1
  exact ⟨hc k hk, hf k, hB, fun x => hs k x⟩
theorem IntsAt.sub {w : World} {b off n cap : Nat} {xs : List Int} (h : IntsAt w (some ⟨b, off, none⟩) n cap xs) (lo hi : Nat) (h1 : lo ≤ hi) (h2 : hi ≤ n) : IntsAt w (some ⟨b, off + lo, none⟩) (hi - lo) (cap - lo) ((xs.take hi).drop lo) := by
  have hl := h.len
  have hc := RowAt.le h
  have hm := RowAt.max h
  refine ⟨by simp; omega, by omega, by omega, by simp, ?_⟩
  by_cases h0 : hi - lo = 0
  · exact .inl h0
  · obtain ⟨b', off', e, hb, hcell⟩ := RowAt.addr h (by omega)
    simp only [Option.some.injEq, Addr.mk.injEq, and_true] at e
    obtain ⟨rfl, rfl⟩ := e
    refine .inr ⟨b, off + lo, rfl, hb, fun i v hv => ?_⟩
    have hi' : i < hi - lo := by
      have := (List.getElem?_eq_some_iff.1 hv).1
      simp at this; omega
    have := hcell (lo + i) v (by
      rw [← hv, List.getElem?_map, List.getElem?_map, List.getElem?_drop, List.getElem?_take, if_pos (by omega)])
    rw [← Nat.add_assoc] at this
    exact this
end Go.Proofs.Ytedpkhboepahgaa
