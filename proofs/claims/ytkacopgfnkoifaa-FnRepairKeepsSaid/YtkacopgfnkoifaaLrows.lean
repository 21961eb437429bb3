/- Tables of ints. -/
import Derived.Test.YtkacopgfnkoifaaTab
import Derived.Test.YtkacopgfnkoifaaInts
import Derived.WalkKit
import Derived.Lib.Hide
import Derived.Deep.QuietTactic
import Derived.BigQuiet
namespace Go.Proofs.Ytkacopgfnkoifaa
open Go.RowKit
def RowsAt (w : World) (ao : Option Addr) (n cap : Nat) (rows : List (List Int)) : Prop := TabAt (Value.int .i64) w ao n cap rows
def OwnR (B M : Nat) (w : World) (v : Value) (rows : List (List Int)) : Prop := OwnTab 22 3 (Value.int .i64) B M w v rows
theorem info_introw : (Try.prog.info? 22).map (fun i => (i.zero, i.size, i.bytes)) = some (some (.slice none 0 0), 1, 24) := by kernel_rfl
theorem RowsAt.len {w : World} {ao : Option Addr} {n cap : Nat} {rows : List (List Int)} (h : RowsAt w ao n cap rows) : rows.length = n := TabAt.len h
theorem RowsAt.grown {w w' : World} {ao : Option Addr} {n cap : Nat} {rows : List (List Int)} (h : RowsAt w ao n cap rows) (hg : w.grownBy w' none) : RowsAt w' ao n cap rows := TabAt.grown h hg
theorem RowsAt.at {w : World} {ao : Option Addr} {n cap : Nat} {rows : List (List Int)} (h : RowsAt w ao n cap rows) (k : Nat) (hk : k < n) :
    ∃ b off ro rc, ao = some ⟨b, off, none⟩ ∧ w.cell? ⟨b, off + k, none⟩ = some (.slice ro (rows.getD k []).length rc) ∧ IntsAt w ro (rows.getD k []).length rc (rows.getD k []) := TabAt.at h k hk
theorem OwnR.grown {B M : Nat} {w w' : World} {v : Value} {rows : List (List Int)} (h : OwnR B M w v rows) (hg : w.grownBy w' none) : OwnR B M w' v rows := OwnTab.grown h hg
theorem OwnR.row {B M : Nat} {w w' : World} {v : Value} {rows : List (List Int)} {row : Option Nat} (h : OwnR B M w v rows) (hg : w.grownBy w' row) (hr : ∀ k, row = some k → k < B ∨ M ≤ k) : OwnR B M w' v rows := OwnTab.row h hg hr
theorem OwnR.now {B M : Nat} {w : World} {v : Value} {rows : List (List Int)} (h : OwnR B M w v rows) : OwnR B w.heap.size w v rows := OwnTab.now h
theorem OwnR.up {B M M' : Nat} {w : World} {v : Value} {rows : List (List Int)} (h : OwnR B M w v rows) (hM : M ≤ M') : OwnR B M' w v rows := OwnTab.up h hM
theorem OwnR.shape {B M : Nat} {w : World} {v : Value} {rows : List (List Int)} (h : OwnR B M w v rows) : ∃ ao cap, v = .slice ao rows.length cap ∧ RowsAt w ao rows.length cap rows := OwnTab.shape h
theorem ownR_nil (B : Nat) (w : World) (hB : B ≤ w.heap.size) : OwnR B (w.heap.size + 1) (w.alloc (.cells #[] 22)) (.slice (some ⟨w.heap.size, 0, none⟩) 0 0) [] := ownTab_nil _ _ _ B w hB
theorem ownR_none (B M : Nat) (w : World) : OwnR B M w (.slice none 0 0) [] :=
  ⟨[], ⟨rfl, .inl ⟨rfl, rfl⟩⟩, fun k hk => by simp [Value.ownBlock] at hk, rfl, fun i r hi => by simp at hi, fun i j u u' _ hu => by simp at hu⟩
theorem one_lst (w : World) (u : Value) : RowAt (w.alloc (.cells #[u] 22)) (some ⟨w.heap.size, 0, none⟩) 1 1 [u] := by
  obtain ⟨ao, cap, e, h, _⟩ := Own.shape (own_lit 22 w #[u] (by simp))
  simp at e
  obtain ⟨rfl, _, rfl⟩ := e
  exact h
theorem app_rows_at {ops : Array Oper} {rest : List Oper} {o : Oper} {a : Act} {Q : Exit → Act → World → Prop} {w : World} (hgd : o.guard = none) (s x : Operand)
    (ho : o.op = .call { callee := .builtin .append, args := #[s, x], argTypes := #[23, 23] })
    {B M : Nat} {v u : Value} {rows : List (List Int)} {r : List Int} (htab : OwnR B M w v rows) (hu : OwnI M w u r) {ad : Addr} {c : Nat} (hr : RowAt w (some ad) 1 c [u]) (hs : a.eval s = v) (hx : a.eval x = .slice (some ad) 1 c)
    (hBM : B ≤ M) (hM : M ≤ w.heap.size) (hlen : rows.length ≤ 1000000)
    (h : ∀ v' w', OwnR B w'.heap.size w' v' (rows ++ [r]) → w.grownBy w' v.ownBlock → (v'.ownBlock = v.ownBlock ∨ v'.ownBlock = some w.heap.size) → wpList Try.prog ops Q rest (a.put o.dst v') w') : wpList Try.prog ops Q (o :: rest) a w :=
  app_tab_at 23 24 hgd s x ho Try.underlying23 info_introw (by decide) (by decide) htab hu hr hs hx hBM hM hlen h
theorem app_rows {ops : Array Oper} {rest : List Oper} {o : Oper} {a : Act} {Q : Exit → Act → World → Prop} {w : World} (hgd : o.guard = none) (s x : Operand)
    (ho : o.op = .call { callee := .builtin .append, args := #[s, x], argTypes := #[23, 23] })
    {B M : Nat} {v u : Value} {rows : List (List Int)} {r : List Int} (htab : OwnR B M w v rows) (hu : OwnI M w u r) {ad : Addr} {c : Nat} (hr : RowAt w (some ad) 1 c [u]) (hs : a.eval s = v) (hx : a.eval x = .slice (some ad) 1 c)
    (hBM : B ≤ M) (hM : M ≤ w.heap.size) (hlen : rows.length ≤ 1000000)
    (h : ∀ v' w', OwnR B w'.heap.size w' v' (rows ++ [r]) → w.grownBy w' v.ownBlock → wpList Try.prog ops Q rest (a.put o.dst v') w') : wpList Try.prog ops Q (o :: rest) a w :=
  app_rows_at hgd s x ho htab hu hr hs hx hBM hM hlen fun v' w' a b _ => h v' w' a b
theorem OwnR.apart {B M B' M' : Nat} {w w' : World} {v u : Value} {rows rows' : List (List Int)} (h : OwnR B M w v rows) (hu : OwnR B' M' w u rows') (hs : Sep v u) (hg : w.grownBy w' u.ownBlock) : OwnR B M w' v rows := by
  obtain ⟨ds, hd⟩ := OwnTab.spine hu
  exact OwnTab.apart h hd (by decide) hs hg
theorem OwnR.lower {B B' M : Nat} {w : World} {v : Value} {rows : List (List Int)} (h : OwnR B M w v rows) (hB : B' ≤ B) : OwnR B' M w v rows := by
  obtain ⟨vs, h1, h2, h3, h4, h5⟩ := h
  refine ⟨vs, h1.lower hB, h2, h3, fun i r hi => ?_, h5⟩
  obtain ⟨u, hu, ho, hb⟩ := h4 i r hi
  exact ⟨u, hu, ho.lower hB, hb⟩
/-- a part of a slice -/
theorem IntsAt.sub {w : World} {b off n cap : Nat} {xs : List Int} (h : IntsAt w (some ⟨b, off, none⟩) n cap xs) (lo hi : Nat) (h1 : lo ≤ hi) (h2 : hi ≤ n) : IntsAt w (some ⟨b, off + lo, none⟩) (hi - lo) (cap - lo) ((xs.take hi).drop lo) := by
  have hl := h.len
  have hc := RowAt.le h
  have hm := RowAt.max h
  refine ⟨by simp; omega, by omega, by omega, by simp, ?_⟩
  by_cases h0 : hi - lo = 0
  · exact .inl h0
  · obtain ⟨b', off', e, hb, hcell⟩ := RowAt.addr h (by omega)
    simp only [Option.some.injEq, Addr.mk.injEq, and_true] at e
    obtain ⟨rfl, rfl⟩ := e
    refine .inr ⟨b, off + lo, rfl, hb, fun i v hv => ?_⟩
    have hi' : i < hi - lo := by
      have := (List.getElem?_eq_some_iff.1 hv).1
      simp at this; omega
    have := hcell (lo + i) v (by
      rw [← hv, List.getElem?_map, List.getElem?_map, List.getElem?_drop, List.getElem?_take, if_pos (by omega)])
    rw [← Nat.add_assoc] at this
    exact this
end Go.Proofs.Ytkacopgfnkoifaa
