/- Slices of slices: read, owned, appended to. -/
import Derived.Test.YtkacopgfnkoifaaList
import Derived.WalkKit
import Derived.Lib.Hide
import Derived.Deep.QuietTactic
import Derived.BigQuiet
namespace Go.Proofs.Ytkacopgfnkoifaa
open Go.RowKit
variable {α : Type}
/-- a slice of slices that reads as rows -/
def TabAt (f : α → Value) (w : World) (ao : Option Addr) (n cap : Nat) (rows : List (List α)) : Prop :=
  ∃ vs : List Value, RowAt w ao n cap vs ∧ vs.length = rows.length ∧ ∀ (i : Nat) (r : List α), rows[i]? = some r → ∃ ro rc, vs[i]? = some (.slice ro r.length rc) ∧ RowAt w ro r.length rc (r.map f)
theorem TabAt.len {f : α → Value} {w : World} {ao : Option Addr} {n cap : Nat} {rows : List (List α)} (h : TabAt f w ao n cap rows) : rows.length = n := by
  obtain ⟨vs, h1, h2, _⟩ := h
  rw [← h2]; exact h1.len
theorem TabAt.le {f : α → Value} {w : World} {ao : Option Addr} {n cap : Nat} {rows : List (List α)} (h : TabAt f w ao n cap rows) : n ≤ cap ∧ cap ≤ 9223372036854775807 := by
  obtain ⟨vs, h1, h2, _⟩ := h
  exact ⟨h1.le, h1.max⟩
theorem TabAt.grown {f : α → Value} {w w' : World} {ao : Option Addr} {n cap : Nat} {rows : List (List α)} (h : TabAt f w ao n cap rows) (hg : w.grownBy w' none) : TabAt f w' ao n cap rows := by
  obtain ⟨vs, h1, h2, h3⟩ := h
  refine ⟨vs, h1.grown hg, h2, fun i r hi => ?_⟩
  obtain ⟨ro, rc, e, hr⟩ := h3 i r hi
  exact ⟨ro, rc, e, hr.grown hg⟩
/-- row k of a table -/
theorem TabAt.at {f : α → Value} {w : World} {ao : Option Addr} {n cap : Nat} {rows : List (List α)} (h : TabAt f w ao n cap rows) (k : Nat) (hk : k < n) :
    ∃ b off ro rc, ao = some ⟨b, off, none⟩ ∧ w.cell? ⟨b, off + k, none⟩ = some (.slice ro (rows.getD k []).length rc) ∧ RowAt w ro (rows.getD k []).length rc ((rows.getD k []).map f) := by
  have hl := h.len
  obtain ⟨vs, h1, h2, h3⟩ := h
  obtain ⟨b, off, e, _, hc⟩ := h1.addr (by omega)
  have hr : rows[k]? = some (rows.getD k []) := by simp [List.getD_eq_getElem?_getD, List.getElem?_eq_getElem (l := rows) (i := k) (by omega)]
  obtain ⟨ro, rc, e2, hrow⟩ := h3 k _ hr
  exact ⟨b, off, ro, rc, e, hc k _ e2, hrow⟩
/-- cell j of a row -/
theorem RowAt.get {f : α → Value} {w : World} {ao : Option Addr} {cap : Nat} {r : List α} (h : RowAt w ao r.length cap (r.map f)) (j : Nat) (hj : j < r.length) (d : α) :
    ∃ b off, ao = some ⟨b, off, none⟩ ∧ b < w.heap.size ∧ w.cell? ⟨b, off + j, none⟩ = some (f (r.getD j d)) := by
  obtain ⟨b, off, e, hb, hc⟩ := h.addr (by omega)
  exact ⟨b, off, e, hb, hc j _ (by simp [List.getD_eq_getElem?_getD, List.getElem?_eq_getElem (l := r) (i := j) hj])⟩
/-- a slice of slices of the call's own: all its blocks in [B, M), the rows in different blocks -/
def OwnTab (e2 e : TypeId) (f : α → Value) (B M : Nat) (w : World) (v : Value) (rows : List (List α)) : Prop :=
  ∃ vs : List Value, Own e2 B w v vs ∧ (∀ k, v.ownBlock = some k → k < M) ∧ vs.length = rows.length ∧
    (∀ (i : Nat) (r : List α), rows[i]? = some r → ∃ u : Value, vs[i]? = some u ∧ Own e B w u (r.map f) ∧ ∀ k, u.ownBlock = some k → k < M) ∧
    (∀ (i j : Nat) (u u' : Value), i ≠ j → vs[i]? = some u → vs[j]? = some u' → u.ownBlock = none ∨ u.ownBlock ≠ u'.ownBlock)
theorem OwnTab.grown {e2 e : TypeId} {f : α → Value} {B M : Nat} {w w' : World} {v : Value} {rows : List (List α)} (h : OwnTab e2 e f B M w v rows) (hg : w.grownBy w' none) : OwnTab e2 e f B M w' v rows := by
  obtain ⟨vs, h1, h2, h3, h4, h5⟩ := h
  refine ⟨vs, h1.grown hg, h2, h3, fun i r hi => ?_, h5⟩
  obtain ⟨u, hu, ho, hb⟩ := h4 i r hi
  exact ⟨u, hu, ho.grown hg, hb⟩
/-- written elsewhere: below B, or from M on -/
theorem OwnTab.row {e2 e : TypeId} {f : α → Value} {B M : Nat} {w w' : World} {v : Value} {rows : List (List α)} {row : Option Nat} (h : OwnTab e2 e f B M w v rows) (hg : w.grownBy w' row) (hr : ∀ k, row = some k → k < B ∨ M ≤ k) : OwnTab e2 e f B M w' v rows := by
  have key : ∀ {e : TypeId} {u : Value} {cs : List Value}, Own e B w u cs → (∀ k, u.ownBlock = some k → k < M) → Own e B w' u cs := fun ho hb => by
    refine ho.apart hg ?_
    rename_i u _
    cases hu : u.ownBlock with
    | none => exact .inl rfl
    | some k =>
      refine .inr fun e => ?_
      have h1 := (ho.bound k hu).1
      have h2 := hb k hu
      rcases hr k e.symm with h | h <;> omega
  obtain ⟨vs, h1, h2, h3, h4, h5⟩ := h
  refine ⟨vs, key h1 h2, h2, h3, fun i r hi => ?_, h5⟩
  obtain ⟨u, hu, ho, hb⟩ := h4 i r hi
  exact ⟨u, hu, key ho hb, hb⟩
theorem OwnTab.up {e2 e : TypeId} {f : α → Value} {B M M' : Nat} {w : World} {v : Value} {rows : List (List α)} (h : OwnTab e2 e f B M w v rows) (hM : M ≤ M') : OwnTab e2 e f B M' w v rows := by
  obtain ⟨vs, h1, h2, h3, h4, h5⟩ := h
  refine ⟨vs, h1, fun k hk => Nat.lt_of_lt_of_le (h2 k hk) hM, h3, fun i r hi => ?_, h5⟩
  obtain ⟨u, hu, ho, hb⟩ := h4 i r hi
  exact ⟨u, hu, ho, fun k hk => Nat.lt_of_lt_of_le (hb k hk) hM⟩
theorem OwnTab.now {e2 e : TypeId} {f : α → Value} {B M : Nat} {w : World} {v : Value} {rows : List (List α)} (h : OwnTab e2 e f B M w v rows) : OwnTab e2 e f B w.heap.size w v rows := by
  obtain ⟨vs, h1, h2, h3, h4, h5⟩ := h
  refine ⟨vs, h1, fun k hk => (h1.bound k hk).2, h3, fun i r hi => ?_, h5⟩
  obtain ⟨u, hu, ho, hb⟩ := h4 i r hi
  exact ⟨u, hu, ho, fun k hk => (ho.bound k hk).2⟩
theorem OwnTab.shape {e2 e : TypeId} {f : α → Value} {B M : Nat} {w : World} {v : Value} {rows : List (List α)} (h : OwnTab e2 e f B M w v rows) : ∃ ao cap, v = .slice ao rows.length cap ∧ TabAt f w ao rows.length cap rows := by
  obtain ⟨vs, h1, h2, h3, h4, h5⟩ := h
  obtain ⟨ao, cap, rfl, hr, _⟩ := h1.shape
  rw [h3] at hr ⊢
  refine ⟨ao, cap, rfl, vs, hr, h3, fun i r hi => ?_⟩
  obtain ⟨u, hu, ho, hb⟩ := h4 i r hi
  obtain ⟨ro, rc, rfl, hrow, _⟩ := ho.shape
  simp only [List.length_map] at hu hrow
  exact ⟨ro, rc, hu, hrow⟩
theorem ownTab_nil (e2 e : TypeId) (f : α → Value) (B : Nat) (w : World) (hB : B ≤ w.heap.size) : OwnTab e2 e f B (w.heap.size + 1) (w.alloc (.cells #[] e2)) (.slice (some ⟨w.heap.size, 0, none⟩) 0 0) [] :=
  ⟨[], (own_lit e2 w #[] (by simp)).lower hB, fun k hk => by simp [Value.ownBlock] at hk; omega, rfl, fun i r hi => by simp at hi, fun i j u u' _ hu => by simp at hu⟩
/-- blocks of two element types are not one -/
theorem own_types {e e' : TypeId} {B B' : Nat} {w : World} {u v : Value} {cs ds : List Value} (h : Own e B w u cs) (h' : Own e' B' w v ds) (hne : e ≠ e') : u.ownBlock = none ∨ u.ownBlock ≠ v.ownBlock := by
  rcases h.2 with ⟨rfl, _⟩ | ⟨g, cap, cur, rfl, _, hg, _⟩
  · exact .inl rfl
  · rcases h'.2 with ⟨rfl, _⟩ | ⟨g', cap', cur', rfl, _, hg', _⟩
    · exact .inr (by simp [Value.ownBlock])
    · refine .inr fun e => ?_
      simp [Value.ownBlock] at e
      subst e
      rw [hg] at hg'
      simp at hg'
      exact hne hg'.2
theorem slice_one (v : Value) (cs : List Value) {e : TypeId} {B : Nat} {w : World} (h : Own e B w v cs) : v.oneCell' = true := by
  obtain ⟨ao, cap, rfl, _, _⟩ := h.shape
  rfl
/-- append of one row, made since M, to an owned table -/
theorem app_tab_at {P : Program} {ops : Array Oper} {rest : List Oper} {o : Oper} {a : Act} {Q : Exit → Act → World → Prop} {w : World} {e2 e : TypeId} {f : α → Value} (t : TypeId) (by_ : Nat) (hgd : o.guard = none) (s x : Operand)
    (ho : o.op = .call { callee := .builtin .append, args := #[s, x], argTypes := #[t, t] }) (ht : P.underlying t = some (.slice e2))
    (hi : (P.info? e2).map (fun i => (i.zero, i.size, i.bytes)) = some (some (.slice none 0 0), 1, by_)) (hby : by_ ≤ 64) (hne : e2 ≠ e)
    {B M : Nat} {v u : Value} {rows : List (List α)} {r : List α} (htab : OwnTab e2 e f B M w v rows) (hu : Own e M w u (r.map f)) {ad : Addr} {c : Nat} (hr : RowAt w (some ad) 1 c [u]) (hs : a.eval s = v) (hx : a.eval x = .slice (some ad) 1 c)
    (hBM : B ≤ M) (hM : M ≤ w.heap.size) (hlen : rows.length ≤ 1000000)
    (h : ∀ v' w', OwnTab e2 e f B w'.heap.size w' v' (rows ++ [r]) → w.grownBy w' v.ownBlock → (v'.ownBlock = v.ownBlock ∨ v'.ownBlock = some w.heap.size) → wpList P ops Q rest (a.put o.dst v') w') : wpList P ops Q (o :: rest) a w := by
  obtain ⟨vs, h1, h2, h3, h4, h5⟩ := htab
  refine app_own_at t e2 (.slice none 0 0) by_ hgd s x ho ht hi rfl hby h1 hr hs hx (fun y hy => by simp at hy; subst hy; exact slice_one _ _ hu) (by omega) (by simp; omega) fun v' w' k1 k2 k3 => h v' w' ?_ k2 k3
  refine ⟨vs ++ [u], k1, fun k hk => (k1.bound k hk).2, by simp [h3], fun i r' hi' => ?_, fun i j x y hij hx' hy' => ?_⟩
  · rcases Nat.lt_or_ge i rows.length with hlt | hge
    · rw [List.getElem?_append_left hlt] at hi'
      obtain ⟨z, hz, hoz, hb⟩ := h4 i r' hi'
      refine ⟨z, by rw [List.getElem?_append_left (by omega)]; exact hz, ?_, fun k hk => ?_⟩
      · exact hoz.apart k2 (own_types hoz h1 (Ne.symm hne))
      · have := (hoz.apart k2 (own_types hoz h1 (Ne.symm hne))).bound k hk; exact this.2
    · rw [List.getElem?_append_right hge] at hi'
      have hi0 : i = rows.length := by
        have := (List.getElem?_eq_some_iff.1 hi').1
        simp at this; omega
      subst hi0
      simp at hi'
      subst hi'
      have hu' := (hu.lower hBM).apart k2 (own_types (hu.lower hBM) h1 (Ne.symm hne))
      refine ⟨u, by rw [List.getElem?_append_right (by omega)]; simp [h3], hu', fun k hk => (hu'.bound k hk).2⟩
  · have bnd : ∀ i z, (vs ++ [u])[i]? = some z → (i < vs.length ∧ vs[i]? = some z ∧ ∀ k, z.ownBlock = some k → k < M) ∨ (i = vs.length ∧ z = u) := fun i z hz => by
      rcases Nat.lt_or_ge i vs.length with hlt | hge
      · left
        rw [List.getElem?_append_left hlt] at hz
        have hrw : rows[i]? = some (rows[i]'(by omega)) := List.getElem?_eq_getElem (by omega)
        obtain ⟨z', hz', _, hb⟩ := h4 i _ hrw
        rw [hz] at hz'
        simp at hz'
        subst hz'
        exact ⟨hlt, hz, hb⟩
      · right
        rw [List.getElem?_append_right hge] at hz
        have := (List.getElem?_eq_some_iff.1 hz).1
        simp at this
        have hi0 : i = vs.length := by omega
        subst hi0
        simp at hz
        exact ⟨rfl, hz.symm⟩
    rcases bnd i x hx' with ⟨_, a1, a2⟩ | ⟨a1, rfl⟩
    · rcases bnd j y hy' with ⟨_, b1, _⟩ | ⟨b1, rfl⟩
      · exact h5 i j x y hij a1 b1
      · cases hb : x.ownBlock with
        | none => exact .inl rfl
        | some k =>
          refine .inr fun e => ?_
          have := a2 k hb
          have := (hu.bound k e.symm).1
          omega
    · rcases bnd j y hy' with ⟨_, b1, b2⟩ | ⟨b1, rfl⟩
      · cases hb : x.ownBlock with
        | none => exact .inl rfl
        | some k =>
          refine .inr fun e => ?_
          have := b2 k e.symm
          have := (hu.bound k hb).1
          omega
      · omega
theorem app_tab {P : Program} {ops : Array Oper} {rest : List Oper} {o : Oper} {a : Act} {Q : Exit → Act → World → Prop} {w : World} {e2 e : TypeId} {f : α → Value} (t : TypeId) (by_ : Nat) (hgd : o.guard = none) (s x : Operand)
    (ho : o.op = .call { callee := .builtin .append, args := #[s, x], argTypes := #[t, t] }) (ht : P.underlying t = some (.slice e2))
    (hi : (P.info? e2).map (fun i => (i.zero, i.size, i.bytes)) = some (some (.slice none 0 0), 1, by_)) (hby : by_ ≤ 64) (hne : e2 ≠ e)
    {B M : Nat} {v u : Value} {rows : List (List α)} {r : List α} (htab : OwnTab e2 e f B M w v rows) (hu : Own e M w u (r.map f)) {ad : Addr} {c : Nat} (hr : RowAt w (some ad) 1 c [u]) (hs : a.eval s = v) (hx : a.eval x = .slice (some ad) 1 c)
    (hBM : B ≤ M) (hM : M ≤ w.heap.size) (hlen : rows.length ≤ 1000000)
    (h : ∀ v' w', OwnTab e2 e f B w'.heap.size w' v' (rows ++ [r]) → w.grownBy w' v.ownBlock → wpList P ops Q rest (a.put o.dst v') w') : wpList P ops Q (o :: rest) a w :=
  app_tab_at t by_ hgd s x ho ht hi hby hne htab hu hr hs hx hBM hM hlen fun v' w' a b _ => h v' w' a b
theorem TabAt.pre {f : α → Value} {w : World} {ao : Option Addr} {n cap : Nat} {rows : List (List α)} (h : TabAt f w ao n cap rows) (k : Nat) (hk : k ≤ n) : TabAt f w ao k cap (rows.take k) := by
  have hl := h.len
  obtain ⟨vs, h1, h2, h3⟩ := h
  have hvl := h1.len
  refine ⟨vs.take k, ⟨by simp; omega, by have := h1.le; omega, h1.max, fun e => ⟨by have := h1.nil e; omega, (h1.nil e).2⟩, ?_⟩, by simp; omega, fun i r hi => ?_⟩
  · rcases h1.cells with e | ⟨b, off, e, hb, hc⟩
    · exact .inl (by omega)
    · refine .inr ⟨b, off, e, hb, fun i v hv => hc i v ?_⟩
      rw [List.getElem?_take] at hv
      split at hv
      · exact hv
      · cases hv
  · rw [List.getElem?_take] at hi
    split at hi
    · rename_i hik
      obtain ⟨ro, rc, e, hr⟩ := h3 i r hi
      exact ⟨ro, rc, by rw [List.getElem?_take, if_pos hik]; exact e, hr⟩
    · cases hi
/-- a row of an owned table replaced by one made since M -/
theorem OwnTab.setRow {e2 e : TypeId} {f : α → Value} {B M : Nat} {w : World} {ao : Option Addr} {n cap : Nat} {rows : List (List α)} (h : OwnTab e2 e f B M w (.slice ao n cap) rows) (hne : e2 ≠ e) (hBM : B ≤ M) (i : Nat) (hi : i < rows.length) {u : Value} {r : List α} (hu : Own e M w u (r.map f)) :
    ∃ g, ao = some ⟨g, 0, none⟩ ∧ B ≤ g ∧ (∃ v0, w.cell? ⟨g, i, none⟩ = some v0) ∧ w.frozen? ⟨g, i, none⟩ = false ∧ OwnTab e2 e f B w.heap.size (w.setCell ⟨g, i, none⟩ u) (.slice ao n cap) (rows.set i r) := by
  obtain ⟨vs, h1, h2, h3, h4, h5⟩ := h
  obtain ⟨g, rfl, hn, hB, hgl, hc, hf, hset⟩ := h1.at (by omega)
  have hsz : (w.setCell ⟨g, i, none⟩ u).heap.size = w.heap.size := by simp [World.setCell]
  have keep : ∀ {x : Value} {cs : List Value} {B' : Nat}, Own e B' w x cs → Own e B' (w.setCell ⟨g, i, none⟩ u) x cs := fun hx => hx.apart (row := some g) (grown_set w g i u) (own_types hx h1 (Ne.symm hne))
  refine ⟨g, rfl, hB, ⟨vs[i]'(by omega), hc i _ (by rw [List.getElem?_eq_getElem])⟩, hf i, vs.set i u, hset i u, fun k hk => by simp [Value.ownBlock] at hk; omega, by simp [h3], fun j r' hj => ?_, fun a b x y hab hx hy => ?_⟩
  · by_cases e : j = i
    · subst e
      rw [List.getElem?_set_self (by omega)] at hj
      simp at hj
      subst hj
      exact ⟨u, by rw [List.getElem?_set_self (by omega)], (keep hu).lower hBM, fun k hk => (hu.bound k hk).2⟩
    · rw [List.getElem?_set_ne (Ne.symm e)] at hj
      obtain ⟨z, hz, ho, hb⟩ := h4 j r' hj
      exact ⟨z, by rw [List.getElem?_set_ne (Ne.symm e)]; exact hz, keep ho, fun k hk => (ho.bound k hk).2⟩
  · have bnd : ∀ (j : Nat) (z : Value), vs[j]? = some z → ∀ k, z.ownBlock = some k → k < M := fun j z hz => by
      have hj := (List.getElem?_eq_some_iff.1 hz).1
      obtain ⟨z', hz', _, hb⟩ := h4 j _ (List.getElem?_eq_getElem (l := rows) (i := j) (by omega))
      rw [hz] at hz'
      simp at hz'
      subst hz'
      exact hb
    by_cases ea : a = i
    · subst ea
      rw [List.getElem?_set_self (by omega)] at hx
      simp at hx
      subst hx
      rw [List.getElem?_set_ne hab] at hy
      cases hb : u.ownBlock with
      | none => exact .inl rfl
      | some k =>
        refine .inr fun e => ?_
        have := (hu.bound k hb).1
        have := bnd b y hy k e.symm
        omega
    · rw [List.getElem?_set_ne (Ne.symm ea)] at hx
      by_cases eb : b = i
      · subst eb
        rw [List.getElem?_set_self (by omega)] at hy
        simp at hy
        subst hy
        cases hb : x.ownBlock with
        | none => exact .inl rfl
        | some k =>
          refine .inr fun e => ?_
          have := (hu.bound k e.symm).1
          have := bnd a x hx k hb
          omega
      · rw [List.getElem?_set_ne (Ne.symm eb)] at hy
        exact h5 a b x y hab hx hy
/-- written in a block of the spine's element type that is not the spine -/
theorem OwnTab.apart {e2 e : TypeId} {f : α → Value} {B M B' : Nat} {w w' : World} {v u : Value} {rows : List (List α)} {ds : List Value} (h : OwnTab e2 e f B M w v rows) (hu : Own e2 B' w u ds) (hne : e2 ≠ e) (hs : v.ownBlock = none ∨ v.ownBlock ≠ u.ownBlock) (hg : w.grownBy w' u.ownBlock) : OwnTab e2 e f B M w' v rows := by
  obtain ⟨vs, h1, h2, h3, h4, h5⟩ := h
  refine ⟨vs, h1.apart hg hs, h2, h3, fun i r hi => ?_, h5⟩
  obtain ⟨z, hz, ho, hb⟩ := h4 i r hi
  exact ⟨z, hz, ho.apart hg (own_types ho hu (Ne.symm hne)), hb⟩
theorem OwnTab.spine {e2 e : TypeId} {f : α → Value} {B M : Nat} {w : World} {v : Value} {rows : List (List α)} (h : OwnTab e2 e f B M w v rows) : ∃ vs, Own e2 B w v vs := ⟨h.choose, h.choose_spec.1⟩
theorem OwnTab.below {e2 e : TypeId} {f : α → Value} {B M : Nat} {w : World} {v : Value} {rows : List (List α)} (h : OwnTab e2 e f B M w v rows) : ∀ k, v.ownBlock = some k → k < w.heap.size := fun k hk => by
  obtain ⟨vs, h1⟩ := h.spine
  exact (h1.bound k hk).2
def Sep (u v : Value) : Prop := u.ownBlock = none ∨ u.ownBlock ≠ v.ownBlock
theorem Sep.symm {u v : Value} (h : Sep u v) : Sep v u := by
  unfold Sep at *
  cases hv : v.ownBlock with
  | none => exact .inl rfl
  | some k =>
    rcases h with h | h
    · rw [h]; exact .inr (by simp)
    · rw [hv] at h; exact .inr (Ne.symm h)
theorem Sep.step {u v v' : Value} {w : World} (h : Sep u v) (hb : ∀ k, u.ownBlock = some k → k < w.heap.size) (hv : v'.ownBlock = v.ownBlock ∨ v'.ownBlock = some w.heap.size) : Sep u v' := by
  unfold Sep at *
  rcases hv with e | e
  · rw [e]; exact h
  · rw [e]
    cases hu : u.ownBlock with
    | none => exact .inl rfl
    | some k => exact .inr fun e' => by simp at e'; have := hb k hu; omega
/-- a cell of a row of an owned table -/
theorem OwnTab.cell {e2 e : TypeId} {f : α → Value} {B M : Nat} {w : World} {ao : Option Addr} {n cap : Nat} {rows : List (List α)} (h : OwnTab e2 e f B M w (.slice ao n cap) rows) (hne : e2 ≠ e) (i j : Nat) (hi : i < rows.length) (hj : j < (rows.getD i []).length) :
    ∃ g b rc v0, ao = some ⟨g, 0, none⟩ ∧ w.cell? ⟨g, i, none⟩ = some (.slice (some ⟨b, 0, none⟩) (rows.getD i []).length rc) ∧ B ≤ b ∧ w.cell? ⟨b, j, none⟩ = some v0 ∧ w.frozen? ⟨b, j, none⟩ = false ∧
      ∀ x, OwnTab e2 e f B M (w.setCell ⟨b, j, none⟩ (f x)) (.slice ao n cap) (rows.set i ((rows.getD i []).set j x)) := by
  obtain ⟨vs, h1, h2, h3, h4, h5⟩ := h
  obtain ⟨g, rfl, hn, hB, hgl, hc, hf, hset⟩ := h1.at (by omega)
  have hr : rows[i]? = some (rows.getD i []) := by simp [List.getD_eq_getElem?_getD, List.getElem?_eq_getElem (l := rows) (i := i) (by omega)]
  obtain ⟨u, hu, ho, hb⟩ := h4 i _ hr
  obtain ⟨uo, uc, rfl, hrow, _⟩ := ho.shape
  simp only [List.length_map] at ho hu hrow
  obtain ⟨b, rfl, _, hBb, _, hbc, hbf, hbs⟩ := ho.at (by rw [List.length_map]; omega)
  refine ⟨g, b, uc, _, rfl, hc i _ hu, hBb, hbc j (f ((rows.getD i [])[j]'hj)) (by rw [List.getElem?_map, List.getElem?_eq_getElem hj]; rfl), hbf j, fun x => ⟨vs, h1.apart (row := some b) (grown_set w b j (f x)) (own_types h1 ho hne), h2, by simp [h3], fun k r hk => ?_, h5⟩⟩
  by_cases e : k = i
  · subst e
    rw [List.getElem?_set_self (by omega)] at hk
    simp only [Option.some.injEq] at hk
    subst hk
    refine ⟨_, hu, ?_, hb⟩
    have := hbs j (f x)
    rw [List.map_set]
    exact this
  · rw [List.getElem?_set_ne (Ne.symm e)] at hk
    obtain ⟨z, hz, hoz, hbz⟩ := h4 k r hk
    exact ⟨z, hz, hoz.apart (row := some b) (grown_set w b j (f x)) (h5 k i _ _ e hz hu), hbz⟩
end Go.Proofs.Ytkacopgfnkoifaa
