/- Masks, tags, letters in plain words. -/
import Derived.Test.YtedpkhboepahgaaLists
namespace Go.Proofs.Ytedpkhboepahgaa
/-- the stream of a key -/
def strm (k : Int) (i : Nat) : Int := (k * ((i : Int) + 2) + 11 * (i : Int) * (i : Int) + 5) % 991
theorem strm_range (k : Int) (i : Nat) : 0 ≤ strm k i ∧ strm k i ≤ 990 := by unfold strm; omega
def onL (xs : List Int) (k : Int) : List Int := xs.mapIdx fun i x => (x + strm k i) % 991
def offL (xs : List Int) (k : Int) : List Int := xs.mapIdx fun i x => (x + 991 - strm k i) % 991
theorem onL_len (xs : List Int) (k : Int) : (onL xs k).length = xs.length := by simp [onL]
theorem offL_len (xs : List Int) (k : Int) : (offL xs k).length = xs.length := by simp [offL]
theorem take_getD {xs : List Int} {j : Nat} (hj : j < xs.length) : xs.take (j + 1) = xs.take j ++ [xs.getD j 0] := by
  rw [List.take_add_one, List.getElem?_eq_getElem hj, List.getD_eq_getElem?_getD, List.getElem?_eq_getElem hj]; rfl
theorem onL_step {xs : List Int} {j : Nat} (hj : j < xs.length) (k : Int) : onL (xs.take (j + 1)) k = onL (xs.take j) k ++ [(xs.getD j 0 + strm k j) % 991] := by
  unfold onL
  rw [take_getD hj, List.mapIdx_append, List.length_take, Nat.min_eq_left (by omega)]
  simp
theorem offL_step {xs : List Int} {j : Nat} (hj : j < xs.length) (k : Int) : offL (xs.take (j + 1)) k = offL (xs.take j) k ++ [(xs.getD j 0 + 991 - strm k j) % 991] := by
  unfold offL
  rw [take_getD hj, List.mapIdx_append, List.length_take, Nat.min_eq_left (by omega)]
  simp
theorem onL_getD {xs : List Int} {j : Nat} (hj : j < xs.length) (k : Int) : (onL xs k).getD j 0 = (xs.getD j 0 + strm k j) % 991 := by
  unfold onL
  simp [List.getD_eq_getElem?_getD, List.getElem?_mapIdx, List.getElem?_eq_getElem hj]
theorem offL_getD {xs : List Int} {j : Nat} (hj : j < xs.length) (k : Int) : (offL xs k).getD j 0 = (xs.getD j 0 + 991 - strm k j) % 991 := by
  unfold offL
  simp [List.getD_eq_getElem?_getD, List.getElem?_mapIdx, List.getElem?_eq_getElem hj]
theorem onL_list {xs : List Int} (h : xs.length ≤ 24) (k : Int) : ListP (onL xs k) := by
  refine ⟨by rw [onL_len]; exact h, fun j hj => ?_⟩
  rw [onL_len] at hj
  rw [onL_getD hj]; omega
theorem offL_list {xs : List Int} (h : xs.length ≤ 24) (k : Int) : ListP (offL xs k) := by
  refine ⟨by rw [offL_len]; exact h, fun j hj => ?_⟩
  rw [offL_len] at hj
  rw [offL_getD hj]; omega
theorem ext_getD {xs ys : List Int} (hl : xs.length = ys.length) (h : ∀ j, j < xs.length → xs.getD j 0 = ys.getD j 0) : xs = ys := by
  refine List.ext_getElem hl fun i h1 h2 => ?_
  have := h i h1
  simpa [List.getD_eq_getElem?_getD, List.getElem?_eq_getElem h1, List.getElem?_eq_getElem h2] using this
/-- two keys in either order -/
theorem onL_comm (xs : List Int) (k l : Int) : onL (onL xs k) l = onL (onL xs l) k := by
  refine ext_getD (by simp only [onL_len]) fun j hj => ?_
  simp only [onL_len] at hj
  rw [onL_getD (by rw [onL_len]; exact hj), onL_getD hj, onL_getD (by rw [onL_len]; exact hj), onL_getD hj]
  omega
theorem on_off {xs : List Int} (h : ListP xs) (k : Int) : onL (offL xs k) k = xs := by
  refine ext_getD (by rw [onL_len, offL_len]) fun j hj => ?_
  simp only [onL_len, offL_len] at hj
  rw [onL_getD (by rw [offL_len]; exact hj), offL_getD hj]
  have := h.2 j hj
  omega
theorem off_on {xs : List Int} (h : ListP xs) (k : Int) : offL (onL xs k) k = xs := by
  refine ext_getD (by rw [offL_len, onL_len]) fun j hj => ?_
  simp only [onL_len, offL_len] at hj
  rw [offL_getD (by rw [onL_len]; exact hj), onL_getD hj]
  have := h.2 j hj
  have := strm_range k j
  omega
/-- the masks of all keys -/
def onAll (xs : List Int) (ks : List Int) : List Int := ks.foldl onL xs
theorem onAll_len (xs ks : List Int) : (onAll xs ks).length = xs.length := by
  induction ks generalizing xs with
  | nil => rfl
  | cons k ks ih => exact (ih (onL xs k)).trans (onL_len xs k)
theorem onAll_list {xs : List Int} (h : ListP xs) (ks : List Int) : ListP (onAll xs ks) := by
  induction ks generalizing xs with
  | nil => exact h
  | cons k ks ih => exact ih (onL_list h.1 k)
theorem onAll_snoc (xs ks : List Int) (k : Int) : onAll xs (ks ++ [k]) = onL (onAll xs ks) k := by simp [onAll]
theorem onAll_on (xs ks : List Int) (k : Int) : onAll (onL xs k) ks = onL (onAll xs ks) k := by
  induction ks generalizing xs with
  | nil => rfl
  | cons l ks ih =>
    show onAll (onL (onL xs k) l) ks = onL (onAll (onL xs l) ks) k
    rw [onL_comm, ih]
theorem onAll_rev (xs ks : List Int) : onAll xs ks.reverse = onAll xs ks := by
  induction ks generalizing xs with
  | nil => rfl
  | cons k ks ih =>
    rw [List.reverse_cons, onAll_snoc, ih]
    exact (onAll_on xs ks k).symm
theorem onAll_step {xs ks : List Int} {j : Nat} (hj : j < ks.length) : onAll xs (ks.take (j + 1)) = onL (onAll xs (ks.take j)) (ks.getD j 0) := by
  rw [take_getD hj, onAll_snoc]
/-- the tag of a list -/
def tag0 (k : Int) (n : Nat) : Int := (3 * k + 41 * (n : Int) + 1) % 991
def absL (t : Int) (xs : List Int) : Int := xs.foldl (fun t x => (613 * t + x + 1) % 991) t
def tagL (k : Int) (xs : List Int) : Int := absL (tag0 k xs.length) xs
theorem tag0_range (k : Int) (n : Nat) : 0 ≤ tag0 k n ∧ tag0 k n ≤ 990 := by unfold tag0; omega
theorem absL_snoc (t : Int) (xs : List Int) (x : Int) : absL t (xs ++ [x]) = (613 * absL t xs + x + 1) % 991 := by simp [absL]
theorem absL_step {t : Int} {xs : List Int} {j : Nat} (hj : j < xs.length) : absL t (xs.take (j + 1)) = (613 * absL t (xs.take j) + xs.getD j 0 + 1) % 991 := by
  rw [take_getD hj, absL_snoc]
theorem absL_range {t : Int} (h : 0 ≤ t ∧ t ≤ 990) (xs : List Int) : 0 ≤ absL t xs ∧ absL t xs ≤ 990 := by
  induction xs generalizing t with
  | nil => exact h
  | cons x xs ih => exact ih (t := (613 * t + x + 1) % 991) (by omega)
theorem tagL_range (k : Int) (xs : List Int) : 0 ≤ tagL k xs ∧ tagL k xs ≤ 990 := absL_range (tag0_range _ _) xs
theorem absL_append (t : Int) (xs ys : List Int) : absL t (xs ++ ys) = absL (absL t xs) ys := by simp [absL]
/-- one step is one to one in the tag so far, and in the number -/
theorem abs_inj_t {a b x : Int} (ha : 0 ≤ a ∧ a ≤ 990) (hb : 0 ≤ b ∧ b ≤ 990) (h : (613 * a + x + 1) % 991 = (613 * b + x + 1) % 991) : a = b := by
  have h1 : (613 * (a - b)) % 991 = 0 := by omega
  have h2 : ((613 * (a - b)) * 97) % 991 = 0 := by omega
  omega
theorem abs_inj_x {a x y : Int} (hx : 0 ≤ x ∧ x ≤ 990) (hy : 0 ≤ y ∧ y ≤ 990) (h : (613 * a + x + 1) % 991 = (613 * a + y + 1) % 991) : x = y := by omega
theorem absL_inj {a b : Int} (ha : 0 ≤ a ∧ a ≤ 990) (hb : 0 ≤ b ∧ b ≤ 990) (xs : List Int) (h : absL a xs = absL b xs) : a = b := by
  induction xs generalizing a b with
  | nil => exact h
  | cons x xs ih => exact abs_inj_t (x := x) ha hb (ih (by omega) (by omega) h)
end Go.Proofs.Ytedpkhboepahgaa
