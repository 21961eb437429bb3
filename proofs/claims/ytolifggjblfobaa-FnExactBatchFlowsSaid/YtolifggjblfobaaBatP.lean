/- Batches: plain words. -/
import Derived.Test.YtolifggjblfobaaViewL
import Derived.Test.YtolifggjblfobaaNames
namespace Go.Proofs.Ytolifggjblfobaa
theorem g_left (xs ys : List F3) {i : Nat} (h : i < xs.length) : (xs ++ ys).getD i f0 = xs.getD i f0 := by
  rw [List.getD_eq_getElem?_getD, List.getElem?_append_left h, ← List.getD_eq_getElem?_getD]
theorem g_right (xs ys : List F3) {i : Nat} (h : xs.length ≤ i) : (xs ++ ys).getD i f0 = ys.getD (i - xs.length) f0 := by
  rw [List.getD_eq_getElem?_getD, List.getElem?_append_right h, ← List.getD_eq_getElem?_getD]
theorem g_mem {xs : List F3} {i : Nat} (h : i < xs.length) : xs.getD i f0 ∈ xs := by
  rw [List.getD_eq_getElem?_getD, List.getElem?_eq_getElem h]
  exact List.getElem_mem _
/-- the flows of the first k receivers that are r, in order -/
def selF (rs : List Int) (c : Int) (r k : Nat) : List F3 := ((List.range k).filter (fun i => decide (rs.getD i 0 = (r : Int)))).map fun i : Nat => ((-1, (r : Int), c + (i : Int)) : F3)
def outF (rs : List Int) (c : Int) (k r : Nat) : List F3 := (List.range r).flatMap fun q => selF rs c q k
def hiF (rs : List Int) (c : Int) (k q d : Nat) : List F3 := (List.range d).flatMap fun t => selF rs c (q + 1 + t) k
theorem selF_step (rs : List Int) (c : Int) (r k : Nat) : selF rs c r (k + 1) = selF rs c r k ++ if rs.getD k 0 = (r : Int) then [(-1, (r : Int), c + k)] else [] := by
  unfold selF
  rw [List.range_succ, List.filter_append, List.map_append]
  by_cases h : rs.getD k 0 = (r : Int)
  · rw [if_pos h, List.filter_cons_of_pos (by simpa using h)]; rfl
  · rw [if_neg h, List.filter_cons_of_neg (by simpa using h)]; rfl
theorem outF_step (rs : List Int) (c : Int) (k r : Nat) : outF rs c k (r + 1) = outF rs c k r ++ selF rs c r k := by
  unfold outF
  rw [List.range_succ, List.flatMap_append]
  simp
theorem hiF_step (rs : List Int) (c : Int) (k q d : Nat) : hiF rs c k q (d + 1) = hiF rs c k q d ++ selF rs c (q + 1 + d) k := by
  unfold hiF
  rw [List.range_succ, List.flatMap_append]
  simp
theorem outF_hi (rs : List Int) (c : Int) (k q d : Nat) : outF rs c k (q + 1 + d) = outF rs c k (q + 1) ++ hiF rs c k q d := by
  induction d with
  | zero => simp [hiF]
  | succ d ih => rw [← Nat.add_assoc, outF_step, ih, hiF_step, List.append_assoc]
theorem selF_other {rs : List Int} {k r : Nat} (c : Int) (h : rs.getD k 0 ≠ (r : Int)) : selF rs c r (k + 1) = selF rs c r k := by
  rw [selF_step, if_neg h, List.append_nil]
theorem outF_ins {rs : List Int} {k q : Nat} (c : Int) (d : Nat) (h : rs.getD k 0 = (q : Int)) : outF rs c (k + 1) (q + 1 + d) = outF rs c k (q + 1) ++ (-1, (q : Int), c + k) :: hiF rs c k q d := by
  have h1 : ∀ r, r ≤ q → outF rs c (k + 1) r = outF rs c k r := by
    intro r
    induction r with
    | zero => intro _; rfl
    | succ r ih => intro hr; rw [outF_step, outF_step, ih (by omega), selF_other c (by rw [h]; omega)]
  have h2 : hiF rs c (k + 1) q d = hiF rs c k q d := by
    induction d with
    | zero => rfl
    | succ d ih => rw [hiF_step, hiF_step, ih, selF_other c (by rw [h]; omega)]
  rw [outF_hi, h2, outF_step, h1 q (Nat.le_refl _), selF_step, if_pos h, outF_step]
  simp
theorem mem_selF {rs : List Int} {c : Int} {r k : Nat} {y : F3} (h : y ∈ selF rs c r k) : y.1 = -1 ∧ y.2.1 = (r : Int) ∧ c ≤ y.2.2 ∧ y.2.2 < c + k := by
  unfold selF at h
  simp only [List.mem_map, List.mem_filter, List.mem_range] at h
  obtain ⟨i, ⟨h1, _⟩, rfl⟩ := h
  refine ⟨rfl, rfl, ?_, ?_⟩ <;> simp only <;> omega
theorem mem_outF {rs : List Int} {c : Int} {k r : Nat} {y : F3} (h : y ∈ outF rs c k r) : y.1 = -1 ∧ 0 ≤ y.2.1 ∧ y.2.1 < (r : Int) ∧ c ≤ y.2.2 ∧ y.2.2 < c + k := by
  unfold outF at h
  simp only [List.mem_flatMap, List.mem_range] at h
  obtain ⟨q, hq, hy⟩ := h
  have := mem_selF hy
  omega
theorem mem_hiF {rs : List Int} {c : Int} {k q d : Nat} {y : F3} (h : y ∈ hiF rs c k q d) : (q : Int) < y.2.1 := by
  unfold hiF at h
  simp only [List.mem_flatMap, List.mem_range] at h
  obtain ⟨t, _, hy⟩ := h
  have := mem_selF hy
  omega
theorem outF_zero (rs : List Int) (c : Int) (r : Nat) : outF rs c 0 r = [] := by
  simp [outF, selF]
theorem outF_next {rs : List Int} {k : Nat} (c : Int) (h0 : 0 ≤ rs.getD k 0) (h7 : rs.getD k 0 ≤ 7) :
    outF rs c (k + 1) 8 = outF rs c k ((rs.getD k 0).toNat + 1) ++ (-1, rs.getD k 0, c + k) :: hiF rs c k (rs.getD k 0).toNat (7 - (rs.getD k 0).toNat) ∧
    outF rs c k 8 = outF rs c k ((rs.getD k 0).toNat + 1) ++ hiF rs c k (rs.getD k 0).toNat (7 - (rs.getD k 0).toNat) := by
  obtain ⟨q, hq⟩ : ∃ q : Nat, rs.getD k 0 = (q : Int) := ⟨(rs.getD k 0).toNat, by omega⟩
  have e8 : q + 1 + (7 - q) = 8 := by omega
  have a := outF_ins c (7 - q) hq
  have b := outF_hi rs c k q (7 - q)
  rw [e8] at a b
  rw [hq, Int.toNat_natCast]
  exact ⟨a, b⟩
theorem outF_len {rs : List Int} (c : Int) (h : NamesP rs) (k : Nat) (hk : k ≤ rs.length) : (outF rs c k 8).length = k := by
  induction k with
  | zero => simp [outF_zero]
  | succ k ih =>
    obtain ⟨a, b⟩ := outF_next c (h k (by omega)).1 (h k (by omega)).2
    have := ih (by omega)
    rw [b, List.length_append] at this
    rw [a, List.length_append, List.length_cons]
    omega
/-- where the next flow goes -/
def posF (rs : List Int) (c : Int) (k : Nat) : Nat := (outF rs c k ((rs.getD k 0).toNat + 1)).length
theorem pos_split {rs : List Int} (c : Int) {k : Nat} (h : NamesP rs) (hk : k < rs.length) :
    posF rs c k ≤ k ∧ outF rs c (k + 1) 8 = (outF rs c k 8).take (posF rs c k) ++ (-1, rs.getD k 0, c + k) :: (outF rs c k 8).drop (posF rs c k) ∧
    ∀ j, j < k → ((((outF rs c k 8).getD j f0).2.1 ≤ rs.getD k 0) ↔ j < posF rs c k) := by
  obtain ⟨a, b⟩ := outF_next c (h k hk).1 (h k hk).2
  have hl := outF_len c h k (by omega)
  have h0 := (h k hk).1
  refine ⟨?_, ?_, fun j hj => ?_⟩
  · have := hl
    rw [b, List.length_append] at this
    unfold posF; omega
  · rw [a, b]
    unfold posF
    rw [List.take_left, List.drop_left]
  · have hb := b
    constructor
    · intro hle
      refine Classical.byContradiction fun hn => ?_
      have : (outF rs c k 8).getD j f0 ∈ hiF rs c k (rs.getD k 0).toNat (7 - (rs.getD k 0).toNat) := by
        rw [hb] at hl ⊢
        rw [List.length_append] at hl
        unfold posF at hn
        rw [g_right _ _ (by omega)]
        exact g_mem (by omega)
      have := mem_hiF this
      omega
    · intro hlt
      have : (outF rs c k 8).getD j f0 ∈ outF rs c k ((rs.getD k 0).toNat + 1) := by
        rw [hb]
        unfold posF at hlt
        rw [g_left _ _ hlt]
        exact g_mem hlt
      have := (mem_outF this).2.2.1
      omega
/-- the flows not yet sorted -/
def rawF (rs : List Int) (c : Int) (k n : Nat) : List F3 := (List.range (n - k)).map fun t => (-1, rs.getD (k + t) 0, c + ((k + t : Nat) : Int))
theorem rawF_cons (rs : List Int) (c : Int) {k n : Nat} (h : k < n) : rawF rs c k n = (-1, rs.getD k 0, c + k) :: rawF rs c (k + 1) n := by
  unfold rawF
  rw [show n - k = (n - (k + 1)) + 1 by omega, List.range_succ_eq_map, List.map_cons, List.map_map]
  rw [Nat.add_zero]
  congr 1
  refine List.map_congr_left fun t _ => ?_
  have e : k + (t + 1) = k + 1 + t := by omega
  simp only [Function.comp, Nat.succ_eq_add_one, e]
theorem rawF_end (rs : List Int) (c : Int) (n : Nat) : rawF rs c n n = [] := by simp [rawF]
theorem rawF_len (rs : List Int) (c : Int) (k n : Nat) : (rawF rs c k n).length = n - k := by simp [rawF]
theorem raw_start {rs : List Int} (c : Int) (h : NamesP rs) (h0 : 0 < rs.length) : rawF rs c 0 rs.length = outF rs c 1 8 ++ rawF rs c 1 rs.length := by
  have a := (pos_split c h h0).2.1
  rw [outF_zero] at a
  rw [rawF_cons rs c h0, a]
  simp
/-- the state inside the insertion -/
def insF (P : List F3) (x : F3) (rest : List F3) (j : Nat) : List F3 := P.take j ++ x :: (P.drop j ++ rest)
theorem insF_len (P : List F3) (x : F3) (rest : List F3) (j : Nat) : (insF P x rest j).length = P.length + 1 + rest.length := by
  unfold insF; simp; omega
theorem insF_top (P : List F3) (x : F3) (rest : List F3) : insF P x rest P.length = P ++ x :: rest := by simp [insF]
theorem insF_at (P : List F3) (x : F3) (rest : List F3) {j : Nat} (h : j ≤ P.length) : (insF P x rest j).getD j f0 = x := by
  unfold insF
  rw [List.getD_eq_getElem?_getD, List.getElem?_append_right (by simp [h]), List.length_take, Nat.min_eq_left h]
  simp
theorem insF_before (P : List F3) (x : F3) (rest : List F3) {j i : Nat} (h : j ≤ P.length) (hi : i < j) : (insF P x rest j).getD i f0 = P.getD i f0 := by
  unfold insF
  rw [List.getD_eq_getElem?_getD, List.getElem?_append_left (by simp; omega), List.getElem?_take, if_pos hi, ← List.getD_eq_getElem?_getD]
theorem insF_swap (P : List F3) (x : F3) (rest : List F3) {j : Nat} (h : j + 1 ≤ P.length) : ((insF P x rest (j + 1)).set (j + 1) (P.getD j f0)).set j x = insF P x rest j := by
  unfold insF
  have e : P.take (j + 1) = P.take j ++ [P.getD j f0] := by
    rw [List.take_succ_eq_append_getElem (by omega)]
    simp [List.getD_eq_getElem?_getD, List.getElem?_eq_getElem (show j < P.length by omega)]
  have e2 : P.drop j = P.getD j f0 :: P.drop (j + 1) := by
    rw [List.drop_eq_getElem_cons (by omega)]
    simp [List.getD_eq_getElem?_getD, List.getElem?_eq_getElem (show j < P.length by omega)]
  have lt : (P.take j).length = j := by simp; omega
  rw [e, List.append_assoc, List.set_append_right _ _ (by omega), lt, show j + 1 - j = 1 by omega, List.set_append_right _ _ (by omega), lt, Nat.sub_self, e2]
  rfl
theorem insF_swap' (P : List F3) (x : F3) (rest : List F3) {j : Nat} (h : j + 1 ≤ P.length) : ((insF P x rest (j + 1)).set j x).set (j + 1) (P.getD j f0) = insF P x rest j := by
  rw [List.set_comm _ _ (by omega), insF_swap P x rest h]
/-- a batch -/
def insS (ss : List Int) (c : Int) (k : Nat) : List F3 := (List.range k).map fun i => (ss.getD i 0, -1, c + (i : Int))
theorem insS_step (ss : List Int) (c : Int) (k : Nat) : insS ss c (k + 1) = insS ss c k ++ [(ss.getD k 0, -1, c + (k : Int))] := by simp [insS, List.range_succ]
theorem insS_len (ss : List Int) (c : Int) (k : Nat) : (insS ss c k).length = k := by simp [insS]
def batchR (ss rs : List Int) (c : Int) : List F3 := insS ss c ss.length ++ outF rs (c + ss.length) rs.length 8
def BatchP (ss rs : List Int) (c : Int) : Prop := (NamesP ss ∧ NamesP rs ∧ ss.length = rs.length) ∧ 2 * ss.length ≤ 16 ∧ 0 ≤ c ∧ c ≤ 990
noncomputable def batchL (ss rs : List Int) (c : Int) : List F3 := @ite _ (BatchP ss rs c) (Classical.propDecidable _) (batchR ss rs c) []
theorem batchL_yes {ss rs : List Int} {c : Int} (h : BatchP ss rs c) : batchL ss rs c = batchR ss rs c := if_pos h
theorem batchL_no {ss rs : List Int} {c : Int} (h : ¬ BatchP ss rs c) : batchL ss rs c = [] := if_neg h
theorem batchR_len {ss rs : List Int} {c : Int} (h : BatchP ss rs c) : (batchR ss rs c).length = 2 * ss.length := by
  unfold batchR
  rw [List.length_append, insS_len, outF_len _ h.1.2.1 _ (Nat.le_refl _), ← h.1.2.2]; omega
theorem batchR_in {ss rs : List Int} {c : Int} {i : Nat} (hi : i < ss.length) : (batchR ss rs c).getD i f0 = (ss.getD i 0, -1, c + (i : Int)) := by
  unfold batchR
  rw [List.getD_eq_getElem?_getD, List.getElem?_append_left (by rw [insS_len]; exact hi)]
  simp [insS, hi]
theorem batchR_out {ss rs : List Int} {c : Int} {i : Nat} (hi : ss.length ≤ i) : (batchR ss rs c).getD i f0 = (outF rs (c + ss.length) rs.length 8).getD (i - ss.length) f0 := by
  unfold batchR
  rw [List.getD_eq_getElem?_getD, List.getElem?_append_right (by rw [insS_len]; exact hi), insS_len, ← List.getD_eq_getElem?_getD]
end Go.Proofs.Ytolifggjblfobaa
