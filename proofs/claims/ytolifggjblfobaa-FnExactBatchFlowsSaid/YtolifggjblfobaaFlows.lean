/- Slices of flows (three ints each): read, owned, appended to. -/
import Derived.Test.YtolifggjblfobaaList
import Derived.WalkKit
import Derived.Lib.Hide
import Derived.Deep.QuietTactic
import Derived.BigQuiet
import Derived.Deep.AppendLies
namespace Go.Proofs.Ytolifggjblfobaa
open Go.RowKit
abbrev F3 : Type := Int × Int × Int
def f0 : F3 := (0, 0, 0)
def fcells (f : F3) : List Value := [.int .i64 f.1, .int .i64 f.2.1, .int .i64 f.2.2]
def allCells (fs : List F3) : List Value := fs.flatMap fcells
theorem allCells_len (fs : List F3) : (allCells fs).length = fs.length * 3 := by
  induction fs with
  | nil => rfl
  | cons f fs ih =>
    have : allCells (f :: fs) = fcells f ++ allCells fs := rfl
    rw [this, List.length_append, ih]; simp [fcells]; omega
theorem allCells_app (fs gs : List F3) : allCells (fs ++ gs) = allCells fs ++ allCells gs := by simp [allCells]
theorem allCells_at (fs : List F3) (i j : Nat) (hi : i < fs.length) (hj : j < 3) : (allCells fs)[i * 3 + j]? = (fcells (fs.getD i f0))[j]? := by
  induction fs generalizing i with
  | nil => simp at hi
  | cons f fs ih =>
    have : allCells (f :: fs) = fcells f ++ allCells fs := rfl
    rw [this]
    cases i with
    | zero => rw [Nat.zero_mul, Nat.zero_add, List.getElem?_append_left (by simpa [fcells] using hj)]; rfl
    | succ i =>
      have hl : (fcells f).length = 3 := rfl
      rw [List.getElem?_append_right (by rw [hl]; omega), hl, show (i + 1) * 3 + j - 3 = i * 3 + j by omega, ih i (by simpa using hi)]
      rfl
theorem allCells_set (fs : List F3) (i j : Nat) (hi : i < fs.length) (hj : j < 3) (x : Int) (f' : F3) (h : fcells f' = (fcells (fs.getD i f0)).set j (.int .i64 x)) : (allCells fs).set (i * 3 + j) (.int .i64 x) = allCells (fs.set i f') := by
  induction fs generalizing i with
  | nil => simp at hi
  | cons f fs ih =>
    have e : allCells (f :: fs) = fcells f ++ allCells fs := rfl
    have hl : (fcells f).length = 3 := rfl
    rw [e]
    cases i with
    | zero =>
      rw [Nat.zero_mul, Nat.zero_add, List.set_append_left _ _ (by rw [hl]; exact hj)]
      have : (f :: fs).set 0 f' = f' :: fs := rfl
      rw [this]
      have e2 : allCells (f' :: fs) = fcells f' ++ allCells fs := rfl
      rw [e2, h]; rfl
    | succ i =>
      rw [List.set_append_right _ _ (by rw [hl]; omega), hl, show (i + 1) * 3 + j - 3 = i * 3 + j by omega, ih i (by simpa using hi) h]
      rfl
/-- a slice (ao, n, cap) reads as these flows -/
structure FlowsAt (w : World) (ao : Option Addr) (n cap : Nat) (fs : List F3) : Prop where
  len : fs.length = n
  le : n ≤ cap
  max : cap ≤ 9223372036854775807
  nil : ao = none → n = 0 ∧ cap = 0
  cells : n = 0 ∨ ∃ b off, ao = some ⟨b, off, none⟩ ∧ b < w.heap.size ∧ ∀ i, i < n → w.cell? ⟨b, off + i * 3, none⟩ = some (.int .i64 (fs.getD i f0).1) ∧ w.cell? ⟨b, off + i * 3 + 1, none⟩ = some (.int .i64 (fs.getD i f0).2.1) ∧ w.cell? ⟨b, off + i * 3 + 2, none⟩ = some (.int .i64 (fs.getD i f0).2.2)
theorem FlowsAt.grown {w w' : World} {ao : Option Addr} {n cap : Nat} {fs : List F3} (h : FlowsAt w ao n cap fs) (hg : w.grownBy w' none) : FlowsAt w' ao n cap fs :=
  ⟨h.len, h.le, h.max, h.nil, h.cells.imp id fun ⟨b, off, e, hb, hc⟩ => ⟨b, off, e, Nat.lt_of_lt_of_le hb hg.size, fun i hi => ⟨hg.cell (hc i hi).1 (by simp), hg.cell (hc i hi).2.1 (by simp), hg.cell (hc i hi).2.2 (by simp)⟩⟩⟩
theorem FlowsAt.at {w : World} {ao : Option Addr} {n cap : Nat} {fs : List F3} (h : FlowsAt w ao n cap fs) (i : Nat) (hi : i < n) : ∃ b off, ao = some ⟨b, off, none⟩ ∧ b < w.heap.size ∧ w.cell? ⟨b, off + i * 3, none⟩ = some (.int .i64 (fs.getD i f0).1) ∧ w.cell? ⟨b, off + i * 3 + 1, none⟩ = some (.int .i64 (fs.getD i f0).2.1) ∧ w.cell? ⟨b, off + i * 3 + 2, none⟩ = some (.int .i64 (fs.getD i f0).2.2) := by
  rcases h.cells with e | ⟨b, off, e, hb, hc⟩
  · omega
  · exact ⟨b, off, e, hb, hc i hi⟩
theorem FlowsAt.pre {w : World} {ao : Option Addr} {n cap : Nat} {fs : List F3} (h : FlowsAt w ao n cap fs) (k : Nat) (hk : k ≤ n) : FlowsAt w ao k cap (fs.take k) := by
  have hl := h.len
  refine ⟨by simp; omega, by have := h.le; omega, h.max, fun e => ⟨by have := h.nil e; omega, (h.nil e).2⟩, ?_⟩
  rcases h.cells with e | ⟨b, off, e, hb, hc⟩
  · exact .inl (by omega)
  · refine .inr ⟨b, off, e, hb, fun i hi => ?_⟩
    have := hc i (by omega)
    rw [List.getD_eq_getElem?_getD, List.getElem?_take, if_pos hi, ← List.getD_eq_getElem?_getD]
    exact this
/-- a slice of flows of the call's own: blocks from B on -/
def OwnF (B : Nat) (w : World) (v : Value) (fs : List F3) : Prop := w.ownsRow B 28 3 v fs.length (allCells fs)
theorem OwnF.bound {B : Nat} {w : World} {v : Value} {fs : List F3} (h : OwnF B w v fs) : ∀ k, v.ownBlock = some k → B ≤ k ∧ k < w.heap.size := World.ownsRow.lt h
theorem OwnF.shape {B : Nat} {w : World} {v : Value} {fs : List F3} (h : OwnF B w v fs) : ∃ ao cap, v = .slice ao fs.length cap ∧ FlowsAt w ao fs.length cap fs := by
  have hlt := World.ownsRow.lt h
  have h' := h
  rcases h.2 with ⟨rfl, hn⟩ | ⟨g, cap, cur, rfl, hb, hg, hnc, hcm, hcs, htake⟩
  · exact ⟨none, 0, by rw [hn], rfl, by omega, by omega, fun _ => ⟨hn, rfl⟩, .inl hn⟩
  · refine ⟨some ⟨g, 0, none⟩, cap, rfl, rfl, hnc, hcm, by simp, .inr ⟨g, 0, rfl, (hlt g rfl).2, fun i hi => ?_⟩⟩
    have c := fun j (hj : j < 3) => (World.ownsRow.cellAt h' (i * 3 + j) (by omega)).trans (allCells_at fs i j hi hj)
    rw [Nat.zero_add]
    exact ⟨c 0 (by omega), c 1 (by omega), c 2 (by omega)⟩
theorem OwnF.at {B : Nat} {w : World} {ao : Option Addr} {n cap : Nat} {fs : List F3} (h : OwnF B w (.slice ao n cap) fs) : FlowsAt w ao n cap fs ∧ n = fs.length := by
  obtain ⟨a, c, e, hf⟩ := h.shape
  simp only [Value.slice.injEq] at e
  obtain ⟨rfl, rfl, rfl⟩ := e
  exact ⟨hf, rfl⟩
theorem OwnF.apart {B : Nat} {w w' : World} {v : Value} {fs : List F3} {row : Option Nat} (h : OwnF B w v fs) (hg : w.grownBy w' row) (hr : v.ownBlock = none ∨ v.ownBlock ≠ row) : OwnF B w' v fs := World.ownsRow.kept h hg hr
theorem OwnF.row {B : Nat} {w w' : World} {v : Value} {fs : List F3} {row : Option Nat} (h : OwnF B w v fs) (hg : w.grownBy w' row) (hr : ∀ k, row = some k → k < B) : OwnF B w' v fs := by
  refine h.apart hg ?_
  cases hv : v.ownBlock with
  | none => exact .inl rfl
  | some k =>
    refine .inr fun e => ?_
    have := (h.bound k hv).1
    have := hr k e.symm
    omega
theorem OwnF.grown {B : Nat} {w w' : World} {v : Value} {fs : List F3} (h : OwnF B w v fs) (hg : w.grownBy w' none) : OwnF B w' v fs := h.row hg (by simp)
theorem OwnF.lower {B B' : Nat} {w : World} {v : Value} {fs : List F3} (h : OwnF B w v fs) (hB : B' ≤ B) : OwnF B' w v fs := by
  refine ⟨h.1, ?_⟩
  rcases h.2 with hn | ⟨g, cap, cur, a, hb, r⟩
  · exact .inl hn
  · exact .inr ⟨g, cap, cur, a, by omega, r⟩
theorem ownF_none (B : Nat) (w : World) : OwnF B w (.slice none 0 0) [] := ⟨rfl, .inl ⟨rfl, rfl⟩⟩
theorem ownF_nil (B : Nat) (w : World) (hB : B ≤ w.heap.size) : OwnF B (w.alloc (.cells #[] 28)) (.slice (some ⟨w.heap.size, 0, none⟩) 0 0) [] :=
  World.ownsRow_lit w #[] 0 hB (by simp [maxLen]) rfl
theorem info_flow : (Try.prog.info? 28).map (fun i => (i.zero, i.size, i.bytes)) = some (some (.agg #[.int .i64 0, .int .i64 0, .int .i64 0]), 3, 24) := by kernel_rfl
/-- what is written from B on is nothing old -/
theorem grownF_own {a b c : World} {v : Value} {fs : List F3} {B : Nat} {row : Option Nat} (h : a.grownBy b row) (ho : OwnF B b v fs) (k : b.grownBy c v.ownBlock) (hB : a.heap.size ≤ B) : a.grownBy c row :=
  gRow h k (fun i hi e => by have := (ho.bound i e.symm).1; omega)
theorem fcells_one (fs : List F3) : ∀ u ∈ allCells fs, u.oneCell' = true := by
  intro u hu
  simp only [allCells, List.mem_flatMap] at hu
  obtain ⟨f, _, hf⟩ := hu
  simp [fcells] at hf
  rcases hf with rfl | rfl | rfl <;> rfl
theorem flows_news {w : World} {b off m c : Nat} {gs : List F3} (hr : FlowsAt w (some ⟨b, off, none⟩) m c gs) : ∀ j u, (allCells gs)[j]? = some u → w.cell? ((⟨b, off, none⟩ : Addr).add j) = some u := by
  have hm := hr.len
  intro j u hu
  rcases hr.cells with e | ⟨b', off', e, _, hc⟩
  · have := (List.getElem?_eq_some_iff.1 hu).1
    rw [allCells_len, hm] at this; omega
  · simp only [Option.some.injEq, Addr.mk.injEq, and_true] at e
    obtain ⟨rfl, rfl⟩ := e
    have hjl := (List.getElem?_eq_some_iff.1 hu).1
    rw [allCells_len, hm] at hjl
    rw [Addr.add_lit]
    have hq := allCells_at gs (j / 3) (j % 3) (by omega) (by omega)
    rw [show j / 3 * 3 + j % 3 = j by omega, hu] at hq
    have hcc := hc (j / 3) (by omega)
    have hj3 : j % 3 = 0 ∨ j % 3 = 1 ∨ j % 3 = 2 := by omega
    rcases hj3 with e | e | e
    · rw [e] at hq
      rw [show off + j = off + j / 3 * 3 by omega, hcc.1]; exact hq.symm
    · rw [e] at hq
      rw [show off + j = off + j / 3 * 3 + 1 by omega, hcc.2.1]; exact hq.symm
    · rw [e] at hq
      rw [show off + j = off + j / 3 * 3 + 2 by omega, hcc.2.2]; exact hq.symm
/-- append of flows that read so, to owned flows -/
theorem app_flows {ops : Array Oper} {rest : List Oper} {o : Oper} {a : Act} {Q : Exit → Act → World → Prop} {w : World} (hgd : o.guard = none) (s x : Operand)
    (ho : o.op = .call { callee := .builtin .append, args := #[s, x], argTypes := #[23, 23] })
    {B : Nat} {v : Value} {fs gs : List F3} (hown : OwnF B w v fs) {b off m c : Nat} (hs : a.eval s = v) (hx : a.eval x = .slice (some ⟨b, off, none⟩) m c) (hr : FlowsAt w (some ⟨b, off, none⟩) m c gs)
    (hB : B ≤ w.heap.size) (hlen : fs.length + gs.length ≤ 2000000000)
    (h : ∀ v' w', OwnF B w' v' (fs ++ gs) → w.grownBy w' v.ownBlock → (v'.ownBlock = v.ownBlock ∨ v'.ownBlock = some w.heap.size) → wpList Try.prog ops Q rest (a.put o.dst v') w') : wpList Try.prog ops Q (o :: rest) a w := by
  obtain ⟨i, hi1, hi2, hi3, hi4⟩ := info_parts info_flow
  have hm := hr.len
  refine wpList_append_own_at w hgd s x 23 ho B 28 i _ 3 24 Try.underlying23 hi1 hi2 hi3 hi4 rfl (by decide) v _ _ hs hown ⟨b, off, none⟩ m c (allCells gs) hx (by rw [allCells_len, hm]) (flows_news hr) (fcells_one gs) (by simp only [maxLen]; omega) (by omega) hB (fun v' w' h2 h3 _ h5 => h v' w' ?_ h3 h5)
  unfold OwnF
  rw [List.length_append, allCells_app, hm]
  exact h2
/-- the same at a step of a region that draws its order -/
theorem step_flow {ops : Array Oper} {o : Oper} {a : Act} {K : Act → World → Prop} {Q : Exit → Act → World → Prop} {E : Prop} {w : World} (hgd : o.guard = none) (s x : Operand)
    (ho : o.op = .call { callee := .builtin .append, args := #[s, x], argTypes := #[23, 23] })
    {B : Nat} {v : Value} {fs gs : List F3} (hown : OwnF B w v fs) {b off m c : Nat} (hs : a.eval s = v) (hx : a.eval x = .slice (some ⟨b, off, none⟩) m c) (hr : FlowsAt w (some ⟨b, off, none⟩) m c gs)
    (hB : B ≤ w.heap.size) (hlen : fs.length + gs.length ≤ 2000000000)
    (h : ∀ v' w', OwnF B w' v' (fs ++ gs) → w.grownBy w' v.ownBlock → K (a.put o.dst v') w') :
    if Region.wanted o (yielded ops a.tmps) = true then Oper.wp Try.prog o a w K Q else E := by
  have hw : Region.wanted o (yielded ops a.tmps) = true := by simp [Region.wanted, hgd]
  rw [if_pos hw]
  obtain ⟨i, hi1, hi2, hi3, hi4⟩ := info_parts info_flow
  have hm := hr.len
  obtain ⟨v', w', hrun, h2, h3, h4, h5⟩ := run_append_own_at (P := Try.prog) w B 23 o.type 28 i _ 3 24 Try.underlying23 hi1 hi2 hi3 hi4 rfl (by decide) v fs.length (allCells fs) hown ⟨b, off, none⟩ m c (allCells gs) (by rw [allCells_len, hm]) (flows_news hr) (fcells_one gs) (by simp only [maxLen]; omega) (by omega) hB
  unfold Oper.wp execOp
  simp only [ho, resolve, invoke, builtin, Sem.run_bind, Sem.run_pure, Result.andThen_ok, List.map_toArray, List.map_cons, List.map_nil, hs, hx, hrun]
  refine h v' w' ?_ h3
  unfold OwnF
  rw [List.length_append, allCells_app, hm]
  exact h2
theorem one_flow (w : World) (a b c : Int) : FlowsAt (w.alloc (.cells #[.int .i64 a, .int .i64 b, .int .i64 c] 28)) (some ⟨w.heap.size, 0, none⟩) 1 1 [(a, b, c)] := by
  have h : OwnF w.heap.size (w.alloc (.cells #[.int .i64 a, .int .i64 b, .int .i64 c] 28)) (.slice (some ⟨w.heap.size, 0, none⟩) 1 1) [(a, b, c)] := World.ownsRow_lit w #[.int .i64 a, .int .i64 b, .int .i64 c] 1 (Nat.le_refl _) (by simp [maxLen]) rfl
  exact h.at.1
/-- flow i of owned flows: its cells, and the flows after a store into one -/
theorem OwnF.cell {B : Nat} {w : World} {g n cap : Nat} {fs : List F3} (h : OwnF B w (.slice (some ⟨g, 0, none⟩) n cap) fs) (i : Nat) (hi : i < fs.length) :
    (w.cell? ⟨g, i * 3, none⟩ = some (.int .i64 (fs.getD i f0).1) ∧ w.cell? ⟨g, i * 3 + 1, none⟩ = some (.int .i64 (fs.getD i f0).2.1) ∧ w.cell? ⟨g, i * 3 + 2, none⟩ = some (.int .i64 (fs.getD i f0).2.2)) ∧
    (∀ j, w.frozen? ⟨g, j, none⟩ = false) ∧ B ≤ g ∧ g < w.heap.size ∧
    (∀ x, OwnF B (w.setCell ⟨g, i * 3, none⟩ (.int .i64 x)) (.slice (some ⟨g, 0, none⟩) n cap) (fs.set i (x, (fs.getD i f0).2.1, (fs.getD i f0).2.2))) ∧
    (∀ x, OwnF B (w.setCell ⟨g, i * 3 + 1, none⟩ (.int .i64 x)) (.slice (some ⟨g, 0, none⟩) n cap) (fs.set i ((fs.getD i f0).1, x, (fs.getD i f0).2.2))) ∧
    (∀ x, OwnF B (w.setCell ⟨g, i * 3 + 2, none⟩ (.int .i64 x)) (.slice (some ⟨g, 0, none⟩) n cap) (fs.set i ((fs.getD i f0).1, (fs.getD i f0).2.1, x))) := by
  obtain ⟨hf, hn⟩ := h.at
  subst hn
  have hb := h.bound g rfl
  obtain ⟨b, off, e, _, c0, c1, c2⟩ := hf.at i hi
  simp only [Option.some.injEq, Addr.mk.injEq, and_true] at e
  obtain ⟨rfl, rfl⟩ := e
  rw [Nat.zero_add] at c0 c1 c2
  refine ⟨⟨c0, c1, c2⟩, fun j => World.ownsRow.frozenAt h j, hb.1, hb.2, fun x => ?_, fun x => ?_, fun x => ?_⟩
  · have := (World.ownsRow.stored h (i * 3 + 0) (.int .i64 x)).1
    rw [allCells_set fs i 0 hi (by omega) x (x, (fs.getD i f0).2.1, (fs.getD i f0).2.2) rfl] at this
    unfold OwnF
    rw [List.length_set]
    exact this
  · have := (World.ownsRow.stored h (i * 3 + 1) (.int .i64 x)).1
    rw [allCells_set fs i 1 hi (by omega) x ((fs.getD i f0).1, x, (fs.getD i f0).2.2) rfl] at this
    unfold OwnF
    rw [List.length_set]
    exact this
  · have := (World.ownsRow.stored h (i * 3 + 2) (.int .i64 x)).1
    rw [allCells_set fs i 2 hi (by omega) x ((fs.getD i f0).1, (fs.getD i f0).2.1, x) rfl] at this
    unfold OwnF
    rw [List.length_set]
    exact this
end Go.Proofs.Ytolifggjblfobaa
