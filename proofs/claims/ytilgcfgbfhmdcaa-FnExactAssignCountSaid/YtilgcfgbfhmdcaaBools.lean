/- Slices of bools, tables of bools. -/
import Derived.Test.YtilgcfgbfhmdcaaTab
import Derived.Test.YtilgcfgbfhmdcaaInts
import Derived.WalkKit
import Derived.Lib.Hide
import Derived.Deep.QuietTactic
import Derived.BigQuiet
namespace Go.Proofs.Ytilgcfgbfhmdcaa
open Go.RowKit
def BoolsAt (w : World) (ao : Option Addr) (n cap : Nat) (xs : List Bool) : Prop := RowAt w ao n cap (xs.map Value.bool)
def OwnB (B : Nat) (w : World) (v : Value) (xs : List Bool) : Prop := Own 4 B w v (xs.map Value.bool)
def GridAt (w : World) (ao : Option Addr) (n cap : Nat) (rows : List (List Bool)) : Prop := TabAt Value.bool w ao n cap rows
def OwnG (B M : Nat) (w : World) (v : Value) (rows : List (List Bool)) : Prop := OwnTab 30 4 Value.bool B M w v rows
theorem info_bool : (Try.prog.info? 4).map (fun i => (i.zero, i.size, i.bytes)) = some (some (.bool false), 1, 1) := by kernel_rfl
theorem info_bools : (Try.prog.info? 30).map (fun i => (i.zero, i.size, i.bytes)) = some (some (.slice none 0 0), 1, 24) := by kernel_rfl
theorem BoolsAt.len {w : World} {ao : Option Addr} {n cap : Nat} {xs : List Bool} (h : BoolsAt w ao n cap xs) : xs.length = n := by simpa using RowAt.len h
theorem GridAt.len {w : World} {ao : Option Addr} {n cap : Nat} {rows : List (List Bool)} (h : GridAt w ao n cap rows) : rows.length = n := TabAt.len h
theorem GridAt.grown {w w' : World} {ao : Option Addr} {n cap : Nat} {rows : List (List Bool)} (h : GridAt w ao n cap rows) (hg : w.grownBy w' none) : GridAt w' ao n cap rows := TabAt.grown h hg
theorem GridAt.at {w : World} {ao : Option Addr} {n cap : Nat} {rows : List (List Bool)} (h : GridAt w ao n cap rows) (k : Nat) (hk : k < n) :
    ∃ b off ro rc, ao = some ⟨b, off, none⟩ ∧ w.cell? ⟨b, off + k, none⟩ = some (.slice ro (rows.getD k []).length rc) ∧ BoolsAt w ro (rows.getD k []).length rc (rows.getD k []) := TabAt.at h k hk
theorem BoolsAt.get {w : World} {ao : Option Addr} {n cap : Nat} {r : List Bool} (h : BoolsAt w ao n cap r) (j : Nat) (hj : j < n) :
    ∃ b off, ao = some ⟨b, off, none⟩ ∧ b < w.heap.size ∧ w.cell? ⟨b, off + j, none⟩ = some (.bool (r.getD j false)) := by
  have hl := h.len
  subst hl
  exact RowAt.get h j hj false
theorem BoolsAt.grown {w w' : World} {ao : Option Addr} {n cap : Nat} {xs : List Bool} (h : BoolsAt w ao n cap xs) (hg : w.grownBy w' none) : BoolsAt w' ao n cap xs := RowAt.grown h hg
theorem OwnB.grown {B : Nat} {w w' : World} {v : Value} {xs : List Bool} (h : OwnB B w v xs) (hg : w.grownBy w' none) : OwnB B w' v xs := Own.grown h hg
theorem OwnB.row {B : Nat} {w w' : World} {v : Value} {xs : List Bool} {row : Option Nat} (h : OwnB B w v xs) (hg : w.grownBy w' row) (hr : ∀ k, row = some k → k < B) : OwnB B w' v xs := Own.row h hg hr
theorem OwnB.shape {B : Nat} {w : World} {v : Value} {xs : List Bool} (h : OwnB B w v xs) : ∃ ao cap, v = .slice ao xs.length cap ∧ BoolsAt w ao xs.length cap xs := by
  obtain ⟨ao, cap, e, h1, _⟩ := Own.shape h
  simp only [List.length_map] at e h1
  exact ⟨ao, cap, e, h1⟩
theorem own_nilB (B : Nat) (w : World) (hB : B ≤ w.heap.size) : OwnB B (w.alloc (.cells #[] 4)) (.slice (some ⟨w.heap.size, 0, none⟩) 0 0) [] := (own_lit 4 w #[] (by simp)).lower hB
theorem one_bool (w : World) (z : Bool) : BoolsAt (w.alloc (.cells #[.bool z] 4)) (some ⟨w.heap.size, 0, none⟩) 1 1 [z] := by
  obtain ⟨ao, cap, e, h, _⟩ := Own.shape (own_lit 4 w #[.bool z] (by simp))
  simp at e
  obtain ⟨rfl, _, rfl⟩ := e
  exact h
theorem one_row (w : World) (u : Value) : RowAt (w.alloc (.cells #[u] 30)) (some ⟨w.heap.size, 0, none⟩) 1 1 [u] := by
  obtain ⟨ao, cap, e, h, _⟩ := Own.shape (own_lit 30 w #[u] (by simp))
  simp at e
  obtain ⟨rfl, _, rfl⟩ := e
  exact h
theorem bools_one (xs : List Bool) : ∀ u ∈ xs.map Value.bool, u.oneCell' = true := by
  intro u hu; simp only [List.mem_map] at hu; obtain ⟨z, _, rfl⟩ := hu; rfl
theorem app_bools {ops : Array Oper} {rest : List Oper} {o : Oper} {a : Act} {Q : Exit → Act → World → Prop} {w : World} (hgd : o.guard = none) (s x : Operand)
    (ho : o.op = .call { callee := .builtin .append, args := #[s, x], argTypes := #[30, 30] })
    {B : Nat} {v : Value} {xs ys : List Bool} (hown : OwnB B w v xs) {ao : Option Addr} {m c : Nat} (hr : BoolsAt w ao m c ys) (hs : a.eval s = v) (hx : a.eval x = .slice ao m c)
    (hB : B ≤ w.heap.size) (hlen : xs.length + ys.length ≤ 2000000000)
    (h : ∀ v' w', OwnB B w' v' (xs ++ ys) → w.grownBy w' v.ownBlock → wpList Try.prog ops Q rest (a.put o.dst v') w') : wpList Try.prog ops Q (o :: rest) a w := by
  refine app_own 30 4 (.bool false) 1 hgd s x ho Try.underlying30 info_bool rfl (by decide) hown hr hs hx (bools_one ys) hB (by simpa using hlen) fun v' w' h1 h2 => h v' w' ?_ h2
  unfold OwnB
  rw [List.map_append]
  exact h1
theorem app_grid {ops : Array Oper} {rest : List Oper} {o : Oper} {a : Act} {Q : Exit → Act → World → Prop} {w : World} (hgd : o.guard = none) (s x : Operand)
    (ho : o.op = .call { callee := .builtin .append, args := #[s, x], argTypes := #[22, 22] })
    {B M : Nat} {v u : Value} {rows : List (List Bool)} {r : List Bool} (htab : OwnG B M w v rows) (hu : OwnB M w u r) {ad : Addr} {c : Nat} (hr : RowAt w (some ad) 1 c [u]) (hs : a.eval s = v) (hx : a.eval x = .slice (some ad) 1 c)
    (hBM : B ≤ M) (hM : M ≤ w.heap.size) (hlen : rows.length ≤ 1000000)
    (h : ∀ v' w', OwnG B w'.heap.size w' v' (rows ++ [r]) → w.grownBy w' v.ownBlock → wpList Try.prog ops Q rest (a.put o.dst v') w') : wpList Try.prog ops Q (o :: rest) a w :=
  app_tab 22 24 hgd s x ho Try.underlying22 info_bools (by decide) (by decide) htab hu hr hs hx hBM hM hlen h
theorem app_grid_at {ops : Array Oper} {rest : List Oper} {o : Oper} {a : Act} {Q : Exit → Act → World → Prop} {w : World} (hgd : o.guard = none) (s x : Operand)
    (ho : o.op = .call { callee := .builtin .append, args := #[s, x], argTypes := #[22, 22] })
    {B M : Nat} {v u : Value} {rows : List (List Bool)} {r : List Bool} (htab : OwnG B M w v rows) (hu : OwnB M w u r) {ad : Addr} {c : Nat} (hr : RowAt w (some ad) 1 c [u]) (hs : a.eval s = v) (hx : a.eval x = .slice (some ad) 1 c)
    (hBM : B ≤ M) (hM : M ≤ w.heap.size) (hlen : rows.length ≤ 1000000)
    (h : ∀ v' w', OwnG B w'.heap.size w' v' (rows ++ [r]) → w.grownBy w' v.ownBlock → (v'.ownBlock = v.ownBlock ∨ v'.ownBlock = some w.heap.size) → wpList Try.prog ops Q rest (a.put o.dst v') w') : wpList Try.prog ops Q (o :: rest) a w :=
  app_tab_at 22 24 hgd s x ho Try.underlying22 info_bools (by decide) (by decide) htab hu hr hs hx hBM hM hlen h
theorem ownG_nil (B : Nat) (w : World) (hB : B ≤ w.heap.size) : OwnG B (w.heap.size + 1) (w.alloc (.cells #[] 30)) (.slice (some ⟨w.heap.size, 0, none⟩) 0 0) [] := ownTab_nil _ _ _ B w hB
theorem OwnG.apart {B M B' M' : Nat} {w w' : World} {v u : Value} {rows rows' : List (List Bool)} (h : OwnG B M w v rows) (hu : OwnG B' M' w u rows') (hs : Sep v u) (hg : w.grownBy w' u.ownBlock) : OwnG B M w' v rows := by
  obtain ⟨ds, hd⟩ := OwnTab.spine hu
  exact OwnTab.apart h hd (by decide) hs hg
theorem made_bools (n : Nat) : (madeCells (Value.bool false).cells (n * 1)).toList = (List.replicate n false).map Value.bool := by
  rw [Nat.mul_one]
  exact (toList_madeCells_one (.bool false) n).trans (by simp)
end Go.Proofs.Ytilgcfgbfhmdcaa
