/- Batches: the plain laws. -/
import Derived.Test.YtolifggjblfobaaBatP
namespace Go.Proofs.Ytolifggjblfobaa
/-- all names differ -/
def FreshF (fs : List F3) : Prop := (fs.map (·.2.2)).Nodup
theorem fresh_ne {fs : List F3} (h : FreshF fs) {j k : Nat} (hj : j < fs.length) (hk : k < fs.length) : nm fs j = nm fs k ↔ j = k := by
  constructor
  · intro e
    have hn := List.pairwise_iff_getElem.1 h
    unfold nm at e
    simp only [List.getD_eq_getElem?_getD, List.getElem?_eq_getElem hj, List.getElem?_eq_getElem hk, Option.getD_some] at e
    refine Classical.byContradiction fun hjk => ?_
    rcases Nat.lt_or_gt_of_ne hjk with l | l
    · exact hn j k (by simpa using hj) (by simpa using hk) l (by simpa using e)
    · exact hn k j (by simpa using hk) (by simpa using hj) l (by simpa using e.symm)
  · rintro rfl; rfl
theorem outF_names {rs : List Int} (c : Int) (h : NamesP rs) (k : Nat) (hk : k ≤ rs.length) : FreshF (outF rs c k 8) := by
  induction k with
  | zero => rw [outF_zero]; exact List.nodup_nil
  | succ k ih =>
    have hs := (pos_split c h (k := k) (by omega)).2.1
    have ih' := ih (by omega)
    unfold FreshF at ih' ⊢
    rw [hs]
    have hp : ((outF rs c k 8).take (posF rs c k) ++ (-1, rs.getD k 0, c + (k : Int)) :: (outF rs c k 8).drop (posF rs c k)).Perm ((-1, rs.getD k 0, c + (k : Int)) :: outF rs c k 8) := by
      refine List.perm_middle.trans ?_
      rw [List.take_append_drop]
    refine (hp.map (·.2.2)).nodup_iff.2 ?_
    rw [List.map_cons]
    refine List.nodup_cons.2 ⟨fun hm => ?_, ih'⟩
    obtain ⟨y, hy, e⟩ := List.mem_map.1 hm
    have := (mem_outF hy).2.2.2.2
    simp only at e
    omega
theorem insS_names (ss : List Int) (c : Int) (k : Nat) : FreshF (insS ss c k) := by
  induction k with
  | zero => exact List.nodup_nil
  | succ k ih =>
    unfold FreshF at ih ⊢
    rw [insS_step, List.map_append, List.nodup_append]
    refine ⟨ih, by simp, ?_⟩
    intro a ha b hb
    simp only [List.map_cons, List.map_nil, List.mem_singleton] at hb
    obtain ⟨y, hy, rfl⟩ := List.mem_map.1 ha
    simp only [insS, List.mem_map, List.mem_range] at hy
    obtain ⟨i, hi, rfl⟩ := hy
    subst hb
    simp only
    omega
theorem batch_names {ss rs : List Int} {c : Int} {y : F3} (hy : y ∈ batchR ss rs c) (hl : ss.length = rs.length) : c ≤ y.2.2 ∧ y.2.2 < c + 2 * ss.length := by
  unfold batchR at hy
  rcases List.mem_append.1 hy with h | h
  · simp only [insS, List.mem_map, List.mem_range] at h
    obtain ⟨i, hi, rfl⟩ := h
    simp only; omega
  · have := mem_outF h
    omega
theorem batch_fresh {ss rs : List Int} {c : Int} (h : BatchP ss rs c) : FreshF (batchR ss rs c) := by
  have h1 := insS_names ss c ss.length
  have h2 := outF_names (c + ss.length) h.1.2.1 rs.length (Nat.le_refl _)
  unfold FreshF batchR at *
  rw [List.map_append, List.nodup_append]
  refine ⟨h1, h2, ?_⟩
  intro a ha b hb
  obtain ⟨y, hy, rfl⟩ := List.mem_map.1 ha
  obtain ⟨z, hz, rfl⟩ := List.mem_map.1 hb
  have := mem_outF hz
  simp only [insS, List.mem_map, List.mem_range] at hy
  obtain ⟨i, hi, rfl⟩ := hy
  simp only
  omega
/-- fresh names are numbered by place -/
theorem fresh_seen {fs : List F3} (h : FreshF fs) (k : Nat) (hk : k ≤ fs.length) : (seen fs k).length = k ∧ ∀ j, j < k → num fs j = j := by
  induction k with
  | zero => exact ⟨rfl, fun j hj => by omega⟩
  | succ k ih =>
    obtain ⟨h1, h2⟩ := ih (by omega)
    have hm : ¬ nm fs k ∈ seen fs k := fun hm => by
      obtain ⟨j, hj, e⟩ := (mem_seen _ _ _).1 hm
      have := (fresh_ne h (by omega) (by omega)).1 e
      omega
    have hnum : num fs k = k := by
      unfold num
      rw [List.idxOf_eq_length hm, h1]
    refine ⟨?_, fun j hj => ?_⟩
    · rw [num_next, hnum, h1, if_pos rfl]
    · by_cases e : j = k
      · subst e; exact hnum
      · exact h2 j (by omega)
def bareF (fs : List F3) : List (Int × Int) := fs.map fun f => (f.1, f.2.1)
theorem view_fresh {fs : List F3} (h : FreshF fs) {i : Nat} (hi : i < fs.length) : (viewR fs fs.length).getD i f0 = ((fs.getD i f0).1, (fs.getD i f0).2.1, (i : Int)) := by
  rw [viewR_getD fs _ i hi, (fresh_seen h fs.length (Nat.le_refl _)).2 i hi]
theorem bare_getD {fs gs : List F3} (h : bareF fs = bareF gs) (i : Nat) : (fs.getD i f0).1 = (gs.getD i f0).1 ∧ (fs.getD i f0).2.1 = (gs.getD i f0).2.1 := by
  have e : (bareF fs)[i]? = (bareF gs)[i]? := by rw [h]
  unfold bareF at e
  rw [List.getElem?_map, List.getElem?_map] at e
  rw [List.getD_eq_getElem?_getD, List.getD_eq_getElem?_getD]
  cases h1 : fs[i]? with
  | none =>
    cases h2 : gs[i]? with
    | none => simp
    | some b => rw [h1, h2] at e; simp at e
  | some a =>
    cases h2 : gs[i]? with
    | none => rw [h1, h2] at e; simp at e
    | some b => rw [h1, h2] at e; simp at e; simpa using e
theorem fresh_same {fs gs : List F3} (hf : FreshF fs) (hg : FreshF gs) : viewR fs fs.length = viewR gs gs.length ↔ bareF fs = bareF gs := by
  constructor
  · intro e
    have hl : fs.length = gs.length := by have := congrArg List.length e; rwa [viewR_len, viewR_len] at this
    refine List.ext_getElem (by simp [bareF, hl]) fun i h1 h2 => ?_
    have h1' : i < fs.length := by simpa [bareF] using h1
    have h2' : i < gs.length := by omega
    have a := view_fresh hf h1'
    have b := view_fresh hg h2'
    rw [e, b] at a
    simp [List.getD_eq_getElem?_getD, List.getElem?_eq_getElem h1', List.getElem?_eq_getElem h2'] at a
    simp [bareF, a]
  · intro e
    have hl : fs.length = gs.length := by have := congrArg List.length e; simpa [bareF] using this
    rw [← hl]
    refine view_same fs gs fs.length (fun i _ => bare_getD e i) fun j k hj hk => ?_
    rw [fresh_ne hf hj hk, fresh_ne hg (by omega) (by omega)]
/-- how often r comes in a list; how many flows go to r -/
def cntI (xs : List Int) (r : Int) : Nat := xs.countP fun x => decide (x = r)
def cntT (fs : List F3) (r : Int) : Nat := fs.countP fun f => decide (f.2.1 = r)
theorem cntI_step (xs : List Int) (r : Int) (i : Nat) (h : i < xs.length) : cntI (xs.take (i + 1)) r = cntI (xs.take i) r + if xs.getD i 0 = r then 1 else 0 := by
  unfold cntI
  rw [List.take_succ_eq_append_getElem h, List.countP_append]
  have : xs.getD i 0 = xs[i] := by simp [List.getD_eq_getElem?_getD, List.getElem?_eq_getElem h]
  rw [this]
  by_cases e : xs[i] = r <;> simp [e]
theorem cntT_step (fs : List F3) (r : Int) (i : Nat) (h : i < fs.length) : cntT (fs.take (i + 1)) r = cntT (fs.take i) r + if (fs.getD i f0).2.1 = r then 1 else 0 := by
  unfold cntT
  rw [List.take_succ_eq_append_getElem h, List.countP_append]
  have : fs.getD i f0 = fs[i] := by simp [List.getD_eq_getElem?_getD, List.getElem?_eq_getElem h]
  rw [this]
  by_cases e : fs[i].2.1 = r <;> simp [e]
theorem cnt_out {rs : List Int} (c : Int) (h : NamesP rs) (r : Int) (k : Nat) (hk : k ≤ rs.length) : cntT (outF rs c k 8) r = cntI (rs.take k) r := by
  induction k with
  | zero => rw [outF_zero]; rfl
  | succ k ih =>
    have hs := (pos_split c h (k := k) (by omega)).2.1
    rw [hs, cntI_step _ _ _ (by omega), ← ih (by omega)]
    conv => rhs; rw [← List.take_append_drop (posF rs c k) (outF rs c k 8)]
    unfold cntT
    rw [List.countP_append, List.countP_append, List.countP_cons]
    by_cases e : rs.getD k 0 = r
    · rw [if_pos e]
      have : decide (((-1, rs.getD k 0, c + (k : Int)) : F3).2.1 = r) = true := by simpa using e
      simp only [this, if_true]; omega
    · rw [if_neg e]
      have : decide (((-1, rs.getD k 0, c + (k : Int)) : F3).2.1 = r) = false := by simpa using e
      simp only [this, Bool.false_eq_true, if_false]; omega
/-- receivers behind the mix are in order -/
theorem outF_sorted (rs : List Int) (c : Int) (k r : Nat) : (outF rs c k r).Pairwise fun a b => a.2.1 ≤ b.2.1 := by
  induction r with
  | zero => exact List.Pairwise.nil
  | succ r ih =>
    rw [outF_step, List.pairwise_append]
    refine ⟨ih, ?_, fun a ha b hb => ?_⟩
    · refine List.pairwise_iff_getElem.2 fun i j hi hj _ => ?_
      have a := mem_selF (List.getElem_mem hi)
      have b := mem_selF (List.getElem_mem hj)
      omega
    · have a := mem_outF ha
      have b := mem_selF hb
      omega
theorem sorted_at {fs : List F3} (h : fs.Pairwise fun a b => a.2.1 ≤ b.2.1) {i : Nat} (hi : i + 1 < fs.length) : (fs.getD i f0).2.1 ≤ (fs.getD (i + 1) f0).2.1 := by
  have := List.pairwise_iff_getElem.1 h i (i + 1) (by omega) hi (by omega)
  simpa [List.getD_eq_getElem?_getD, List.getElem?_eq_getElem hi, List.getElem?_eq_getElem (show i < fs.length by omega)] using this
/-- the receivers behind the mix hang on their numbers only -/
theorem selF_bare (rs : List Int) (c : Int) (r k : Nat) (hk : k ≤ rs.length) : bareF (selF rs c r k) = List.replicate (cntI (rs.take k) (r : Int)) (-1, (r : Int)) := by
  induction k with
  | zero => simp [selF, bareF, cntI]
  | succ k ih =>
    have ih' := ih (by omega)
    rw [selF_step, cntI_step _ _ _ (by omega)]
    unfold bareF at ih' ⊢
    rw [List.map_append, ih']
    by_cases e : rs.getD k 0 = (r : Int)
    · rw [if_pos e, if_pos e, List.replicate_succ']; rfl
    · rw [if_neg e, if_neg e]; simp
theorem outF_bare {rs rs' : List Int} (c c' : Int) (r : Nat) (h : ∀ q : Nat, q < r → cntI rs (q : Int) = cntI rs' (q : Int)) : bareF (outF rs c rs.length r) = bareF (outF rs' c' rs'.length r) := by
  induction r with
  | zero => rfl
  | succ r ih =>
    have e1 := selF_bare rs c r rs.length (Nat.le_refl _)
    have e2 := selF_bare rs' c' r rs'.length (Nat.le_refl _)
    rw [List.take_length] at e1 e2
    have ih' := ih fun q hq => h q (by omega)
    unfold bareF at ih' e1 e2 ⊢
    rw [outF_step, outF_step, List.map_append, List.map_append, ih', e1, e2, h r (by omega)]
theorem insS_bare (ss : List Int) (c : Int) (k : Nat) : bareF (insS ss c k) = (List.range k).map fun i => (ss.getD i 0, -1) := by
  simp [bareF, insS]
theorem bare_app (fs gs : List F3) : bareF (fs ++ gs) = bareF fs ++ bareF gs := by simp [bareF]
theorem batch_valid {ss rs : List Int} {c : Int} (h : BatchP ss rs c) : FlowsP (batchR ss rs c) := by
  have hl := batchR_len h
  obtain ⟨⟨hs, hr, e⟩, h16, h0, h9⟩ := h
  refine ⟨by omega, fun i hi => ?_⟩
  by_cases hin : i < ss.length
  · rw [batchR_in hin]
    have := hs i hin
    refine ⟨⟨?_, ?_⟩, ⟨?_, ?_⟩, ?_⟩ <;> simp only <;> omega
  · rw [batchR_out (by omega)]
    have hl2 := outF_len (c + ss.length) hr rs.length (Nat.le_refl _)
    have hlt : i - ss.length < (outF rs (c + ss.length) rs.length 8).length := by omega
    have hm : (outF rs (c + ss.length) rs.length 8).getD (i - ss.length) f0 ∈ outF rs (c + ss.length) rs.length 8 := by
      rw [List.getD_eq_getElem?_getD, List.getElem?_eq_getElem hlt]
      exact List.getElem_mem _
    have := mem_outF hm
    refine ⟨⟨?_, ?_⟩, ⟨?_, ?_⟩, ?_⟩ <;> omega
theorem batch_same {ss rs rs' : List Int} {c c' : Int} (h : BatchP ss rs c) (h' : BatchP ss rs' c') : viewL (batchR ss rs c) = viewL (batchR ss rs' c') ↔ ∀ q : Nat, q < 8 → cntI rs (q : Int) = cntI rs' (q : Int) := by
  rw [viewL_yes (batch_valid h), viewL_yes (batch_valid h'), fresh_same (batch_fresh h) (batch_fresh h')]
  constructor
  · intro e q hq
    unfold batchR at e
    rw [bare_app, bare_app, insS_bare, insS_bare] at e
    have e2 := List.append_cancel_left e
    have a := cnt_out (c + ss.length) h.1.2.1 (q : Int) rs.length (Nat.le_refl _)
    have b := cnt_out (c' + ss.length) h'.1.2.1 (q : Int) rs'.length (Nat.le_refl _)
    rw [List.take_length] at a b
    rw [← a, ← b]
    have key : ∀ fs : List F3, cntT fs (q : Int) = (bareF fs).countP fun p => decide (p.2 = (q : Int)) := fun fs => by
      unfold cntT bareF
      rw [List.countP_map]
      rfl
    rw [key, key, e2]
  · intro hq
    unfold batchR
    rw [bare_app, bare_app, insS_bare, insS_bare, outF_bare (c + ss.length) (c' + ss.length) 8 hq]
end Go.Proofs.Ytolifggjblfobaa
