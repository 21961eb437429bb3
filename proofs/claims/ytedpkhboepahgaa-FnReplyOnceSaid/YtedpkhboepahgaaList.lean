/- Slices of one-cell elements: read, owned, made, appended to. -/
import Derived.Test.YtedpkhboepahgaaCore
import Derived.Test.YtedpkhboepahgaaHeap
import Derived.WalkKit
import Derived.Lib.Hide
import Derived.Deep.QuietTactic
import Derived.BigQuiet
import Derived.Laws.AppendOwnNone
import Derived.Maps.AppendAt
namespace Go.Proofs.Ytedpkhboepahgaa
open Go.RowKit
/-- a slice (ao, n, cap) reads as these cells -/
structure RowAt (w : World) (ao : Option Addr) (n cap : Nat) (cs : List Value) : Prop where
  len : cs.length = n
  le : n ≤ cap
  max : cap ≤ 9223372036854775807
  nil : ao = none → n = 0 ∧ cap = 0
  cells : n = 0 ∨ ∃ b off, ao = some ⟨b, off, none⟩ ∧ b < w.heap.size ∧ ∀ i v, cs[i]? = some v → w.cell? ⟨b, off + i, none⟩ = some v
theorem RowAt.row {w w' : World} {ao : Option Addr} {n cap : Nat} {cs : List Value} {row : Option Nat} (h : RowAt w ao n cap cs) (hg : w.grownBy w' row) (hr : ∀ a, ao = some a → some a.block ≠ row) : RowAt w' ao n cap cs :=
  ⟨h.len, h.le, h.max, h.nil, h.cells.imp id fun ⟨b, off, e, hb, hc⟩ => ⟨b, off, e, Nat.lt_of_lt_of_le hb hg.size, fun i v hv => hg.cell (hc i v hv) (hr ⟨b, off, none⟩ e)⟩⟩
theorem RowAt.grown {w w' : World} {ao : Option Addr} {n cap : Nat} {cs : List Value} (h : RowAt w ao n cap cs) (hg : w.grownBy w' none) : RowAt w' ao n cap cs := h.row hg (by simp)
theorem RowAt.addr {w : World} {ao : Option Addr} {n cap : Nat} {cs : List Value} (h : RowAt w ao n cap cs) (hn : 0 < n) : ∃ b off, ao = some ⟨b, off, none⟩ ∧ b < w.heap.size ∧ ∀ i v, cs[i]? = some v → w.cell? ⟨b, off + i, none⟩ = some v := by
  rcases h.cells with e | e
  · omega
  · exact e
/-- a slice value of the call's own: blocks from B on; element type e, one cell each -/
def Own (e : TypeId) (B : Nat) (w : World) (v : Value) (cs : List Value) : Prop := w.ownsRow B e 1 v cs.length cs
theorem Own.shape {e : TypeId} {B : Nat} {w : World} {v : Value} {cs : List Value} (h : Own e B w v cs) : ∃ ao cap, v = .slice ao cs.length cap ∧ RowAt w ao cs.length cap cs ∧ (∀ a, ao = some a → B ≤ a.block) := by
  have hlt := World.ownsRow.lt h
  have hcells : ∀ {g}, v.ownBlock = some g → ∀ j u, cs[j]? = some u → w.cell? ((⟨g, 0, none⟩ : Addr).add j) = some u := fun hg => World.ownsRow.cells h hg
  rcases h.2 with ⟨rfl, hn⟩ | ⟨g, cap, cur, rfl, hb, hg, hnc, hcm, hcs, htake⟩
  · refine ⟨none, 0, by rw [hn], ⟨rfl, by omega, by omega, fun _ => ⟨hn, rfl⟩, .inl hn⟩, by simp⟩
  · refine ⟨some ⟨g, 0, none⟩, cap, rfl, ⟨rfl, hnc, hcm, by simp, .inr ⟨g, 0, rfl, (hlt g rfl).2, fun i v hv => ?_⟩⟩, by simp; omega⟩
    have := hcells rfl i v hv
    simpa [Addr.add_lit] using this
theorem Own.row {e : TypeId} {B : Nat} {w w' : World} {v : Value} {cs : List Value} {row : Option Nat} (h : Own e B w v cs) (hg : w.grownBy w' row) (hr : ∀ k, row = some k → k < B) : Own e B w' v cs := by
  refine World.ownsRow.kept h hg ?_
  cases hv : v.ownBlock with
  | none => exact .inl rfl
  | some k =>
    refine .inr fun e => ?_
    have := (World.ownsRow.lt h k hv).1
    have := hr k e.symm
    omega
theorem Own.grown {e : TypeId} {B : Nat} {w w' : World} {v : Value} {cs : List Value} (h : Own e B w v cs) (hg : w.grownBy w' none) : Own e B w' v cs := h.row hg (by simp)
/-- written at another block -/
theorem Own.apart {e : TypeId} {B : Nat} {w w' : World} {v : Value} {cs : List Value} {row : Option Nat} (h : Own e B w v cs) (hg : w.grownBy w' row) (hr : v.ownBlock = none ∨ v.ownBlock ≠ row) : Own e B w' v cs :=
  World.ownsRow.kept h hg hr
theorem Own.lower {e : TypeId} {B B' : Nat} {w : World} {v : Value} {cs : List Value} (h : Own e B w v cs) (hB : B' ≤ B) : Own e B' w v cs := by
  refine ⟨h.1, ?_⟩
  rcases h.2 with hn | ⟨g, cap, cur, a, hb, r⟩
  · exact .inl hn
  · exact .inr ⟨g, cap, cur, a, by omega, r⟩
/-- what is written from B on is nothing old -/
theorem grown_own {e : TypeId} {a b c : World} {v : Value} {cs : List Value} {B : Nat} {row : Option Nat} (h : a.grownBy b row) (ho : Own e B b v cs) (k : b.grownBy c v.ownBlock) (hB : a.heap.size ≤ B) : a.grownBy c row :=
  gRow h k (fun i hi e => by have := (World.ownsRow.lt ho i e.symm).1; omega)
theorem own_lit (e : TypeId) (w : World) (cs : Array Value) (hm : cs.size ≤ 1000000) : Own e w.heap.size (w.alloc (.cells cs e)) (.slice (some ⟨w.heap.size, 0, none⟩) cs.size cs.size) cs.toList := by
  have h := World.ownsRow_lit (base := w.heap.size) (e := e) (size := 1) w cs cs.size (Nat.le_refl _) (by simp only [maxLen]; omega) (by omega)
  unfold Own
  rw [Array.length_toList]
  exact h
theorem Own.bound {e : TypeId} {B : Nat} {w : World} {v : Value} {cs : List Value} (h : Own e B w v cs) : ∀ k, v.ownBlock = some k → B ≤ k ∧ k < w.heap.size := World.ownsRow.lt h
section
variable {P : Program} {ops : Array Oper} {rest : List Oper} {o : Oper} {a : Act} {Q : Exit → Act → World → Prop} {w : World}
/-- append to an owned slice, whatever slice is appended -/
theorem app_own_at (t e : TypeId) (z : Value) (by_ : Nat) (hgd : o.guard = none) (s x : Operand)
    (ho : o.op = .call { callee := .builtin .append, args := #[s, x], argTypes := #[t, t] }) (ht : P.underlying t = some (.slice e))
    (hi : (P.info? e).map (fun i => (i.zero, i.size, i.bytes)) = some (some z, 1, by_)) (hz : z.cells.size = 1) (hby : by_ ≤ 64)
    {B : Nat} {v : Value} {cs ds : List Value} (hown : Own e B w v cs) {ao : Option Addr} {m c : Nat} (hr : RowAt w ao m c ds) (hs : a.eval s = v) (hx : a.eval x = .slice ao m c)
    (h1 : ∀ u ∈ ds, u.oneCell' = true) (hB : B ≤ w.heap.size) (hlen : cs.length + ds.length ≤ 2000000000)
    (h : ∀ v' w', Own e B w' v' (cs ++ ds) → w.grownBy w' v.ownBlock → (v'.ownBlock = v.ownBlock ∨ v'.ownBlock = some w.heap.size) → wpList P ops Q rest (a.put o.dst v') w') : wpList P ops Q (o :: rest) a w := by
  obtain ⟨i, hi1, hi2, hi3, hi4⟩ := info_parts hi
  cases ao with
  | none =>
    obtain ⟨rfl, rfl⟩ := hr.nil rfl
    have hd : ds = [] := List.eq_nil_of_length_eq_zero hr.len
    subst hd
    refine wpList_append_own_none hgd s x t ho B e i 1 ht hi1 v _ cs hs hown hx (h v w (by simpa using hown) (grown_refl _ _) (.inl rfl))
  | some ad =>
    refine wpList_append_own_at w hgd s x t ho B e i z 1 by_ ht hi1 hi2 hi3 hi4 hz (by decide) v _ cs hs hown ad m c ds hx (by rw [hr.len]; omega) (fun j u hu => ?_) h1 ?_ ?_ hB (fun v' w' h2 h3 _ h5 => h v' w' ?_ h3 h5)
    · rcases hr.cells with e | ⟨b, off, e, _, hc⟩
      · have := (List.getElem?_eq_some_iff.1 hu).1
        rw [hr.len] at this; omega
      · simp only [Option.some.injEq] at e
        subst e
        have := hc j u hu
        simpa [Addr.add_lit] using this
    · have := hr.len
      simp only [maxLen]; omega
    · have h1 := hr.len
      have h2 : (cs.length + m) * by_ ≤ 2000000000 * 64 := Nat.mul_le_mul (by omega) hby
      omega
    · unfold Own
      rw [List.length_append, hr.len]
      exact h2
theorem app_own (t e : TypeId) (z : Value) (by_ : Nat) (hgd : o.guard = none) (s x : Operand)
    (ho : o.op = .call { callee := .builtin .append, args := #[s, x], argTypes := #[t, t] }) (ht : P.underlying t = some (.slice e))
    (hi : (P.info? e).map (fun i => (i.zero, i.size, i.bytes)) = some (some z, 1, by_)) (hz : z.cells.size = 1) (hby : by_ ≤ 64)
    {B : Nat} {v : Value} {cs ds : List Value} (hown : Own e B w v cs) {ao : Option Addr} {m c : Nat} (hr : RowAt w ao m c ds) (hs : a.eval s = v) (hx : a.eval x = .slice ao m c)
    (h1 : ∀ u ∈ ds, u.oneCell' = true) (hB : B ≤ w.heap.size) (hlen : cs.length + ds.length ≤ 2000000000)
    (h : ∀ v' w', Own e B w' v' (cs ++ ds) → w.grownBy w' v.ownBlock → wpList P ops Q rest (a.put o.dst v') w') : wpList P ops Q (o :: rest) a w :=
  app_own_at t e z by_ hgd s x ho ht hi hz hby hown hr hs hx h1 hB hlen fun v' w' a b _ => h v' w' a b
end
/-- a slice of ints that reads as xs -/
def IntsAt (w : World) (ao : Option Addr) (n cap : Nat) (xs : List Int) : Prop := RowAt w ao n cap (xs.map (Value.int .i64))
def OwnI (B : Nat) (w : World) (v : Value) (xs : List Int) : Prop := Own 3 B w v (xs.map (Value.int .i64))
theorem IntsAt.len {w : World} {ao : Option Addr} {n cap : Nat} {xs : List Int} (h : IntsAt w ao n cap xs) : xs.length = n := by simpa using RowAt.len h
theorem IntsAt.addr {w : World} {ao : Option Addr} {n cap : Nat} {xs : List Int} (h : IntsAt w ao n cap xs) (hn : 0 < n) : ∃ b off, ao = some ⟨b, off, none⟩ ∧ b < w.heap.size ∧ ∀ i, i < n → w.cell? ⟨b, off + i, none⟩ = some (.int .i64 (xs.getD i 0)) := by
  obtain ⟨b, off, e, hb, hc⟩ := RowAt.addr h hn
  refine ⟨b, off, e, hb, fun i hi => hc i _ ?_⟩
  have hl := h.len
  simp [List.getD_eq_getElem?_getD, List.getElem?_eq_getElem (l := xs) (i := i) (by omega)]
theorem OwnI.shape {B : Nat} {w : World} {v : Value} {xs : List Int} (h : OwnI B w v xs) : ∃ ao cap, v = .slice ao xs.length cap ∧ IntsAt w ao xs.length cap xs ∧ (∀ a, ao = some a → B ≤ a.block) := by
  have := Own.shape h
  simpa [IntsAt] using this
/-- an owned slice, by its block -/
theorem Own.at {e : TypeId} {B : Nat} {w : World} {ao : Option Addr} {n cap : Nat} {cs : List Value} (h : Own e B w (.slice ao n cap) cs) (hn : 0 < cs.length) : ∃ g, ao = some ⟨g, 0, none⟩ ∧ n = cs.length ∧ B ≤ g ∧ g < w.heap.size ∧ (∀ i v, cs[i]? = some v → w.cell? ⟨g, i, none⟩ = some v) ∧ (∀ i, w.frozen? ⟨g, i, none⟩ = false) ∧
    (∀ i u, Own e B (w.setCell ⟨g, i, none⟩ u) (.slice ao n cap) (cs.set i u)) := by
  have hlt := World.ownsRow.lt h
  have h' := h
  rcases h.2 with ⟨hx, h0⟩ | ⟨g, cap', cur, hv, hb, hg, hnc, hcm, hcs, htake⟩
  · omega
  · simp only [Value.slice.injEq] at hv
    obtain ⟨rfl, rfl, rfl⟩ := hv
    refine ⟨g, rfl, rfl, hb, (hlt g rfl).2, fun i v hv => ?_, fun i => World.ownsRow.frozenAt h' i, fun i u => ?_⟩
    · rw [World.ownsRow.cellAt h' i (by have := (List.getElem?_eq_some_iff.1 hv).1; omega)]
      exact hv
    · have := (World.ownsRow.stored h' i u).1
      unfold Own
      rw [List.length_set]
      exact this
theorem OwnI.at {B : Nat} {w : World} {ao : Option Addr} {n cap : Nat} {xs : List Int} (h : OwnI B w (.slice ao n cap) xs) (hn : 0 < xs.length) : ∃ g, ao = some ⟨g, 0, none⟩ ∧ n = xs.length ∧ B ≤ g ∧ g < w.heap.size ∧ (∀ i, i < xs.length → w.cell? ⟨g, i, none⟩ = some (.int .i64 (xs.getD i 0))) ∧ (∀ i, w.frozen? ⟨g, i, none⟩ = false) ∧
    (∀ i u, OwnI B (w.setCell ⟨g, i, none⟩ (.int .i64 u)) (.slice ao n cap) (xs.set i u)) := by
  obtain ⟨g, e, h1, h2, h3, h4, h5, h6⟩ := Own.at h (by simpa using hn)
  refine ⟨g, e, by simpa using h1, h2, h3, fun i hi => h4 i _ ?_, h5, fun i u => ?_⟩
  · simp [List.getD_eq_getElem?_getD, List.getElem?_eq_getElem hi]
  · unfold OwnI
    rw [List.map_set]
    exact h6 i (.int .i64 u)
theorem ints_one (xs : List Int) : ∀ u ∈ xs.map (Value.int .i64), u.oneCell' = true := by
  intro u hu; simp only [List.mem_map] at hu; obtain ⟨z, _, rfl⟩ := hu; rfl
theorem info_int : (Try.prog.info? 3).map (fun i => (i.zero, i.size, i.bytes)) = some (some (.int .i64 0), 1, 8) := by kernel_rfl
/-- append of ints to an owned slice of ints -/
theorem app_ints {ops : Array Oper} {rest : List Oper} {o : Oper} {a : Act} {Q : Exit → Act → World → Prop} {w : World} (hgd : o.guard = none) (s x : Operand)
    (ho : o.op = .call { callee := .builtin .append, args := #[s, x], argTypes := #[23, 23] })
    {B : Nat} {v : Value} {xs ys : List Int} (hown : OwnI B w v xs) {ao : Option Addr} {m c : Nat} (hr : IntsAt w ao m c ys) (hs : a.eval s = v) (hx : a.eval x = .slice ao m c)
    (hB : B ≤ w.heap.size) (hlen : xs.length + ys.length ≤ 2000000000)
    (h : ∀ v' w', OwnI B w' v' (xs ++ ys) → w.grownBy w' v.ownBlock → wpList Try.prog ops Q rest (a.put o.dst v') w') : wpList Try.prog ops Q (o :: rest) a w := by
  refine app_own 23 3 (.int .i64 0) 8 hgd s x ho Try.underlying23 info_int rfl (by decide) hown hr hs hx (ints_one ys) hB (by simpa using hlen) fun v' w' h1 h2 => h v' w' ?_ h2
  unfold OwnI
  rw [List.map_append]
  exact h1
theorem one_int (w : World) (z : Int) : IntsAt (w.alloc (.cells #[.int .i64 z] 3)) (some ⟨w.heap.size, 0, none⟩) 1 1 [z] := by
  obtain ⟨ao, cap, e, h, _⟩ := Own.shape (own_lit 3 w #[.int .i64 z] (by simp))
  simp at e
  obtain ⟨rfl, _, rfl⟩ := e
  exact h
theorem own_nil (B : Nat) (w : World) (hB : B ≤ w.heap.size) : OwnI B (w.alloc (.cells #[] 3)) (.slice (some ⟨w.heap.size, 0, none⟩) 0 0) [] := by
  have := (own_lit 3 w #[] (by simp)).lower hB
  exact this
theorem OwnI.grown {B : Nat} {w w' : World} {v : Value} {xs : List Int} (h : OwnI B w v xs) (hg : w.grownBy w' none) : OwnI B w' v xs := Own.grown h hg
theorem OwnI.row {B : Nat} {w w' : World} {v : Value} {xs : List Int} {row : Option Nat} (h : OwnI B w v xs) (hg : w.grownBy w' row) (hr : ∀ k, row = some k → k < B) : OwnI B w' v xs := Own.row h hg hr
theorem IntsAt.grown {w w' : World} {ao : Option Addr} {n cap : Nat} {xs : List Int} (h : IntsAt w ao n cap xs) (hg : w.grownBy w' none) : IntsAt w' ao n cap xs := RowAt.grown h hg
theorem own_eq {B : Nat} {w : World} {v : Value} {xs ys : List Int} (h : OwnI B w v xs) (e : ys = xs) : OwnI B w v ys := e ▸ h
end Go.Proofs.Ytedpkhboepahgaa
