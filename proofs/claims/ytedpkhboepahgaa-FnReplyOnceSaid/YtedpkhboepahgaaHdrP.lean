/- Headers in plain words. -/
import Derived.Test.YtedpkhboepahgaaKeys
import Derived.Test.YtedpkhboepahgaaNames
namespace Go.Proofs.Ytedpkhboepahgaa
theorem idx_step {f : Nat → Int → Int} {xs : List Int} {j : Nat} (hj : j < xs.length) : (xs.take (j + 1)).mapIdx f = (xs.take j).mapIdx f ++ [f j (xs.getD j 0)] := by
  rw [take_getD hj, List.mapIdx_append, List.length_take, Nat.min_eq_left (by omega)]
  simp
theorem idx_getD {f : Nat → Int → Int} {xs : List Int} {j : Nat} (hj : j < xs.length) : (xs.mapIdx f).getD j 0 = f j (xs.getD j 0) := by
  simp [List.getD_eq_getElem?_getD, List.getElem?_mapIdx, List.getElem?_eq_getElem hj]
/-- one number of the filler -/
def fillF (k : Int) (m : Nat) (j : Nat) (x : Int) : Int := (x + 991 - strm k (9 - m + j)) % 991
def fillStep (f : List Int) (k : Int) : List Int := (f ++ [0, 0, 0]).mapIdx (fillF k f.length)
def fillN (ks : List Int) (m : Nat) : List Int := (ks.take m).foldl fillStep []
def fillL (ks : List Int) : List Int := fillN ks (ks.length - 1)
theorem fillStep_len (f : List Int) (k : Int) : (fillStep f k).length = f.length + 3 := by simp [fillStep]
theorem fillN_step {ks : List Int} {m : Nat} (h : m < ks.length) : fillN ks (m + 1) = fillStep (fillN ks m) (ks.getD m 0) := by
  unfold fillN; rw [take_getD h]; simp
theorem fillN_len {ks : List Int} : ∀ {m : Nat}, m ≤ ks.length → (fillN ks m).length = 3 * m
  | 0, _ => rfl
  | m + 1, h => by rw [fillN_step (by omega), fillStep_len, fillN_len (m := m) (by omega)]; omega
theorem fillStep_mem {f : List Int} {k x : Int} (h : x ∈ fillStep f k) : 0 ≤ x ∧ x ≤ 990 := by
  unfold fillStep at h
  obtain ⟨i, hi, e⟩ := List.mem_iff_getElem.1 h
  rw [List.getElem_mapIdx] at e
  rw [← e]; unfold fillF; omega
theorem fillN_list {ks : List Int} {m : Nat} (h : m ≤ ks.length) (h3 : m ≤ 2) : ListP (fillN ks m) := by
  refine list_mem.2 ⟨by rw [fillN_len h]; omega, fun x hx => ?_⟩
  cases m with
  | zero => simp [fillN] at hx
  | succ m => rw [fillN_step (by omega)] at hx; exact fillStep_mem hx
/-- the layer of the last mix -/
def lastL (ks : List Int) (r : Int) : List Int := 1 :: r :: List.replicate (7 - (fillL ks).length) 0
def hdr0 (ks : List Int) (r : Int) : List Int := onL (lastL ks r) (ks.getD (ks.length - 1) 0) ++ fillL ks
/-- the layer of an earlier mix -/
def fwdL (ks ns : List Int) (i : Nat) (h : List Int) : List Int := [0, ns.getD (i + 1) 0, tagL (ks.getD (i + 1) 0) h] ++ h.take 6
def hdrM (ks ns : List Int) (r : Int) : Nat → List Int
  | 0 => hdr0 ks r
  | m + 1 => onL (fwdL ks ns (ks.length - 2 - m) (hdrM ks ns r m)) (ks.getD (ks.length - 2 - m) 0)
def hdrL (ks ns : List Int) (r : Int) : List Int := hdrM ks ns r (ks.length - 1)
theorem path_fill {ks : List Int} (h : PathP ks) : (fillL ks).length = 3 * (ks.length - 1) ∧ (fillL ks).length ≤ 6 := by
  have := fillN_len (ks := ks) (m := ks.length - 1) (by omega)
  have := h.2
  unfold fillL; omega
theorem lastL_len {ks : List Int} (h : PathP ks) (r : Int) : (lastL ks r).length = 9 - (fillL ks).length := by
  have := path_fill h
  simp [lastL]; omega
theorem lastL_list {ks : List Int} (h : PathP ks) {r : Int} (hr : 0 ≤ r ∧ r ≤ 7) : ListP (lastL ks r) := by
  refine list_mem.2 ⟨by rw [lastL_len h]; omega, fun x hx => ?_⟩
  unfold lastL at hx
  rcases List.mem_cons.1 hx with rfl | hx
  · omega
  · rcases List.mem_cons.1 hx with rfl | hx
    · omega
    · have := List.eq_of_mem_replicate hx; omega
theorem hdr0_len {ks : List Int} (h : PathP ks) (r : Int) : (hdr0 ks r).length = 9 := by
  have := path_fill h
  unfold hdr0
  rw [List.length_append, onL_len, lastL_len h]; omega
theorem list_app {xs ys : List Int} (h : ListP xs) (k : ListP ys) (hl : xs.length + ys.length ≤ 24) : ListP (xs ++ ys) := by
  refine list_mem.2 ⟨by simp; omega, fun x hx => ?_⟩
  rcases List.mem_append.1 hx with hx | hx
  · exact (list_mem.1 h).2 x hx
  · exact (list_mem.1 k).2 x hx
theorem list_take {xs : List Int} (h : ListP xs) (m : Nat) : ListP (xs.take m) :=
  list_mem.2 ⟨by have := h.1; simp; omega, fun x hx => (list_mem.1 h).2 x (List.mem_of_mem_take hx)⟩
theorem list_drop {xs : List Int} (h : ListP xs) (m : Nat) : ListP (xs.drop m) :=
  list_mem.2 ⟨by have := h.1; simp; omega, fun x hx => (list_mem.1 h).2 x (List.mem_of_mem_drop hx)⟩
theorem fill_list {ks : List Int} (h : PathP ks) : ListP (fillL ks) := fillN_list (by omega) (by have := h.2; omega)
theorem hdr0_list {ks : List Int} (h : PathP ks) {r : Int} (hr : 0 ≤ r ∧ r ≤ 7) : ListP (hdr0 ks r) := by
  have hl := hdr0_len h r
  unfold hdr0 at hl ⊢
  exact list_app (onL_list (lastL_list h hr).1 _) (fill_list h) (by rw [List.length_append] at hl; omega)
theorem fwdL_len {ks ns : List Int} {i : Nat} {h : List Int} (hl : h.length = 9) : (fwdL ks ns i h).length = 9 := by
  simp [fwdL]; omega
theorem fwdL_list {ks ns : List Int} {i : Nat} {h : List Int} (hh : ListP h) (hi : i + 1 < ns.length) (hn : NamesP ns) : ListP (fwdL ks ns i h) := by
  have h1 := hn (i + 1) hi
  have ht := tagL_range (ks.getD (i + 1) 0) h
  refine list_app (list_mem.2 ⟨by simp, fun x hx => ?_⟩) (list_take hh 6) (by simp; omega)
  simp only [List.mem_cons, List.not_mem_nil, or_false] at hx
  rcases hx with rfl | rfl | rfl
  · omega
  · omega
  · omega
theorem hdrM_ok {ks ns : List Int} (h : PathP ks) (hn : NamesP ns) (hl : ns.length = ks.length) {r : Int} (hr : 0 ≤ r ∧ r ≤ 7) : ∀ m, m + 1 ≤ ks.length → ListP (hdrM ks ns r m) ∧ (hdrM ks ns r m).length = 9
  | 0, _ => ⟨hdr0_list h hr, hdr0_len h r⟩
  | m + 1, hm => by
    obtain ⟨h1, h2⟩ := hdrM_ok h hn hl hr m (by omega)
    have h3 := fwdL_len (ks := ks) (ns := ns) (i := ks.length - 2 - m) h2
    have h4 := fwdL_list (ks := ks) (ns := ns) (i := ks.length - 2 - m) h1 (by omega) hn
    exact ⟨onL_list h4.1 _, by show (onL _ _).length = 9; rw [onL_len]; exact h3⟩
theorem hdrL_ok {ks ns : List Int} (h : PathP ks) (hn : NamesP ns) (hl : ns.length = ks.length) {r : Int} (hr : 0 ≤ r ∧ r ≤ 7) : ListP (hdrL ks ns r) ∧ (hdrL ks ns r).length = 9 :=
  hdrM_ok h hn hl hr _ (by have := h.2; omega)
end Go.Proofs.Ytedpkhboepahgaa
