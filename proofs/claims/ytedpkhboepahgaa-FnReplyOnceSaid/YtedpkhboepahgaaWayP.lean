/- The way of a reply, in plain words. -/
import Derived.Test.YtedpkhboepahgaaHdrS
import Derived.Test.YtedpkhboepahgaaPkS
namespace Go.Proofs.Ytedpkhboepahgaa
theorem app_getD_l {xs ys : List Int} {j : Nat} (h : j < xs.length) : (xs ++ ys).getD j 0 = xs.getD j 0 := by
  simp [List.getD_eq_getElem?_getD, List.getElem?_append_left h]
theorem app_getD_r {xs ys : List Int} {j : Nat} (h : xs.length ≤ j) : (xs ++ ys).getD j 0 = ys.getD (j - xs.length) 0 := by
  simp [List.getD_eq_getElem?_getD, List.getElem?_append_right h]
theorem mulmod_l (x y : Int) : (x % 997 * y) % 997 = (x * y) % 997 := by
  rw [Int.mul_emod, Int.emod_emod_of_dvd _ (Int.dvd_refl _), ← Int.mul_emod]
theorem mulmod_r (x y : Int) : (x * (y % 997)) % 997 = (x * y) % 997 := by
  rw [Int.mul_comm, mulmod_l, Int.mul_comm]
theorem prod_comm' {a b : Int} (h : 1 ≤ a ∧ a ≤ 996) (k : 1 ≤ b ∧ b ≤ 996) : prodZ a b = prodZ b a := by
  rw [prodZ_el (elB_iff.2 h) (elB_iff.2 k), prodZ_el (elB_iff.2 k) (elB_iff.2 h), Int.mul_comm]
theorem prod_assoc' {a b c : Int} (h : 1 ≤ a ∧ a ≤ 996) (k : 1 ≤ b ∧ b ≤ 996) (l : 1 ≤ c ∧ c ≤ 996) : prodZ (prodZ a b) c = prodZ a (prodZ b c) := by
  rw [prodZ_el (elB_iff.2 (prod_el h k)) (elB_iff.2 l), prodZ_el (elB_iff.2 h) (elB_iff.2 (prod_el k l)), prodZ_el (elB_iff.2 h) (elB_iff.2 k), prodZ_el (elB_iff.2 k) (elB_iff.2 l), mulmod_l, mulmod_r, Int.mul_assoc]
/-- what a sender and a mix share -/
theorem share {s a : Int} (hs : 1 ≤ s ∧ s ≤ 996) (ha : 1 ≤ a ∧ a ≤ 996) : prodZ a (prodZ s 5) = prodZ s (prodZ a 5) := by
  have h5 : (1 : Int) ≤ 5 ∧ (5 : Int) ≤ 996 := by omega
  rw [← prod_assoc' ha hs h5, prod_comm' ha hs, prod_assoc' hs ha h5]
theorem blind {s f : Int} (hs : 1 ≤ s ∧ s ≤ 996) (hf : 1 ≤ f ∧ f ≤ 996) : prodZ (prodZ s 5) f = prodZ (prodZ s f) 5 := by
  have h5 : (1 : Int) ≤ 5 ∧ (5 : Int) ≤ 996 := by omega
  rw [prod_assoc' hs h5 hf, prod_comm' h5 hf, ← prod_assoc' hs hf h5]
/-- the secret at a step -/
def sK (s : Int) (ps : List Int) (i : Nat) : Int := (foldK s (ps.take i)).2
theorem sK_el {s : Int} {ps : List Int} (hs : 1 ≤ s ∧ s ≤ 996) (h : ElsP ps) (i : Nat) : 1 ≤ sK s ps i ∧ sK s ps i ≤ 996 := (foldK_els hs (els_take h i)).2
theorem foldK_pre (l : List Int) : ∀ a : List Int × Int, ∃ zs, (l.foldl stepK a).1 = a.1 ++ zs := by
  induction l with
  | nil => intro a; exact ⟨[], by simp⟩
  | cons p l ih =>
    intro a
    obtain ⟨zs, e⟩ := ih (stepK a p)
    exact ⟨prodZ a.2 p :: zs, by rw [List.foldl_cons, e]; simp [stepK]⟩
theorem keysL_at {s : Int} {ps : List Int} {i : Nat} (h : i < ps.length) : (keysL s ps).getD i 0 = prodZ (sK s ps i) (ps.getD i 0) := by
  obtain ⟨zs, e⟩ := foldK_pre (ps.drop (i + 1)) (foldK s (ps.take (i + 1)))
  have e2 : keysL s ps = (foldK s (ps.take (i + 1))).1 ++ zs := by
    rw [← e]
    unfold keysL foldK
    rw [← List.foldl_append, List.take_append_drop]
  rw [e2, foldK_step h]
  have hl : (foldK s (ps.take i)).1.length = i := by rw [foldK_len]; simp; omega
  show (((foldK s (ps.take i)).1 ++ [prodZ (foldK s (ps.take i)).2 (ps.getD i 0)]) ++ zs).getD i 0 = _
  rw [List.append_assoc, app_getD_r (by omega), hl]
  simp [sK]
theorem sK_step {s : Int} {ps : List Int} {i : Nat} (h : i < ps.length) : sK s ps (i + 1) = prodZ (sK s ps i) (factZ ((keysL s ps).getD i 0)) := by
  rw [keysL_at h]
  unfold sK
  rw [foldK_step h]; rfl
/-- the element at a step -/
def elL (s : Int) (ps : List Int) (i : Nat) : Int := prodZ (sK s ps i) 5
theorem elL_el {s : Int} {ps : List Int} (hs : 1 ≤ s ∧ s ≤ 996) (h : ElsP ps) (i : Nat) : 1 ≤ elL s ps i ∧ elL s ps i ≤ 996 := prod_el (sK_el hs h i) (by omega)
theorem elL_step {s : Int} {ps : List Int} (hs : 1 ≤ s ∧ s ≤ 996) (h : ElsP ps) {i : Nat} (hi : i < ps.length) : prodZ (elL s ps i) (factZ ((keysL s ps).getD i 0)) = elL s ps (i + 1) := by
  unfold elL
  rw [blind (sK_el hs h i) (fact_el _), sK_step hi]
theorem elL_share {s a : Int} {ps : List Int} (hs : 1 ≤ s ∧ s ≤ 996) (h : ElsP ps) (ha : 1 ≤ a ∧ a ≤ 996) {i : Nat} (hi : i < ps.length) (hp : ps.getD i 0 = prodZ a 5) : prodZ a (elL s ps i) = (keysL s ps).getD i 0 := by
  rw [keysL_at hi, hp]
  exact share (sK_el hs h i) ha
/-- the header that a mix takes -/
def hdrI (ks ns : List Int) (r : Int) (i : Nat) : List Int := hdrM ks ns r (ks.length - 1 - i)
theorem take_getD' {xs : List Int} {j m : Nat} (h : j < m) : (xs.take m).getD j 0 = xs.getD j 0 := by
  simp [List.getD_eq_getElem?_getD, h]
theorem fwd_at {ks ns : List Int} {i j : Nat} {h : List Int} (h3 : 3 ≤ j) (h9 : j < 9) : (fwdL ks ns i h).getD j 0 = h.getD (j - 3) 0 := by
  unfold fwdL
  rw [app_getD_r (by simpa using h3)]
  exact take_getD' (by simp; omega)
theorem onoff1 (x s : Int) (h : 0 ≤ x ∧ x ≤ 990) : ((x + 991 - s) % 991 + s) % 991 = x := by omega
theorem offon1 (x s : Int) (h : 0 ≤ x ∧ x ≤ 990) : ((x + s) % 991 + 991 - s) % 991 = x := by omega
theorem fillStep_at {f : List Int} {k : Int} {j : Nat} (h : j < f.length + 3) : (fillStep f k).getD j 0 = fillF k f.length j ((f ++ [0, 0, 0]).getD j 0) := idx_getD (by simp; omega)
theorem fill_tail {ks ns : List Int} (h : PathP ks) (hn : NamesP ns) (hl : ns.length = ks.length) {r : Int} (hr : 0 ≤ r ∧ r ≤ 7) : ∀ m i, m + 1 ≤ ks.length → i = ks.length - 1 - m → ∀ j, j < 3 * i → (hdrM ks ns r m).getD (9 - 3 * i + j) 0 = (fillN ks i).getD j 0
  | 0, i, _, hi, j, hj => by
    subst hi
    show (hdr0 ks r).getD _ 0 = _
    unfold hdr0
    have hf := path_fill h
    have hll : (onL (lastL ks r) (ks.getD (ks.length - 1) 0)).length = 9 - (fillL ks).length := by rw [onL_len, lastL_len h]
    rw [app_getD_r (by omega), hll]
    unfold fillL at hf ⊢
    rw [show 9 - 3 * (ks.length - 1 - 0) + j - (9 - (fillN ks (ks.length - 1)).length) = j by omega]
    rfl
  | m + 1, i, hm, hi, j, hj => by
    have hk3 := h.2.2
    have hi2 : ks.length - 2 - m = i := by omega
    show (onL (fwdL ks ns (ks.length - 2 - m) (hdrM ks ns r m)) (ks.getD (ks.length - 2 - m) 0)).getD _ 0 = _
    rw [hi2]
    have hok := hdrM_ok h hn hl hr m (by omega)
    rw [onL_getD (by rw [fwdL_len hok.2]; omega), fwd_at (by omega) (by omega)]
    have ih := fill_tail h hn hl hr m (i + 1) (by omega) (by omega) j (by omega)
    rw [show 9 - 3 * i + j - 3 = 9 - 3 * (i + 1) + j by omega, ih, fillN_step (by omega)]
    have hfl := fillN_len (ks := ks) (m := i) (by omega)
    rw [fillStep_at (by omega), hfl, app_getD_l (by omega)]
    unfold fillF
    have hx := (fillN_list (ks := ks) (m := i) (by omega) (by omega)).2 j (by omega)
    exact onoff1 _ _ hx
theorem hdrI_ok {ks ns : List Int} (h : PathP ks) (hn : NamesP ns) (hl : ns.length = ks.length) {r : Int} (hr : 0 ≤ r ∧ r ≤ 7) (i : Nat) : ListP (hdrI ks ns r i) ∧ (hdrI ks ns r i).length = 9 :=
  hdrM_ok h hn hl hr _ (by have := h.2.1; omega)
/-- a layer comes off: the next header -/
theorem peel_mid {ks ns : List Int} (h : PathP ks) (hn : NamesP ns) (hl : ns.length = ks.length) {r : Int} (hr : 0 ≤ r ∧ r ≤ 7) {i : Nat} (hi : i + 1 < ks.length) :
    offL (hdrI ks ns r i ++ [0, 0, 0]) (ks.getD i 0) = [0, ns.getD (i + 1) 0, tagL (ks.getD (i + 1) 0) (hdrI ks ns r (i + 1))] ++ hdrI ks ns r (i + 1) := by
  obtain ⟨o1, o2⟩ := hdrI_ok h hn hl hr (i + 1)
  obtain ⟨o3, o4⟩ := hdrI_ok h hn hl hr i
  have ed : hdrI ks ns r i = onL (fwdL ks ns i (hdrI ks ns r (i + 1))) (ks.getD i 0) := hdrM_down hi
  have fl := fwdL_len (ks := ks) (ns := ns) (i := i) o2
  have fw := fwdL_list (ks := ks) (i := i) o1 (by omega) hn
  have hk3 := h.2.2
  refine ext_getD (by rw [offL_len]; simp; omega) fun j hj => ?_
  rw [offL_len] at hj
  rw [offL_getD hj]
  have hj12 : j < 12 := by simp at hj; omega
  by_cases h9 : j < 9
  · rw [app_getD_l (by omega), ed, onL_getD (by omega), offon1 _ _ (fw.2 j (by omega))]
    by_cases h3 : j < 3
    · unfold fwdL
      rw [app_getD_l (by simpa using h3), app_getD_l (by simpa using h3)]
    · rw [fwd_at (by omega) h9, app_getD_r (by simp; omega)]
      rfl
  · rw [app_getD_r (by omega), app_getD_r (by simp; omega)]
    have z : ([0, 0, 0] : List Int).getD (j - (hdrI ks ns r i).length) 0 = 0 := by
      rw [o4]
      have : j = 9 ∨ j = 10 ∨ j = 11 := by omega
      rcases this with rfl | rfl | rfl <;> rfl
    rw [z]
    have ft := fill_tail h hn hl hr (ks.length - 1 - (i + 1)) (i + 1) (by omega) (by omega) (j - 9 + 3 * i) (by omega)
    have e1 : 9 - 3 * (i + 1) + (j - 9 + 3 * i) = j - 3 := by omega
    rw [e1, fillN_step (by omega)] at ft
    have hfl := fillN_len (ks := ks) (m := i) (by omega)
    rw [fillStep_at (by omega), hfl, app_getD_r (by omega), hfl] at ft
    have z2 : ([0, 0, 0] : List Int).getD (j - 9 + 3 * i - 3 * i) 0 = 0 := by
      have : j = 9 ∨ j = 10 ∨ j = 11 := by omega
      rcases this with rfl | rfl | rfl <;> simp
    rw [z2] at ft
    show _ = (hdrM ks ns r (ks.length - 1 - (i + 1))).getD (j - 3) 0
    rw [ft]
    unfold fillF
    rw [show 9 - 3 * i + (j - 9 + 3 * i) = j by omega]
theorem peel_last {ks ns : List Int} (h : PathP ks) {r : Int} (hr : 0 ≤ r ∧ r ≤ 7) {i : Nat} (hi : i + 1 = ks.length) :
    (offL (hdrI ks ns r i ++ [0, 0, 0]) (ks.getD i 0)).getD 0 0 = 1 ∧ (offL (hdrI ks ns r i ++ [0, 0, 0]) (ks.getD i 0)).getD 1 0 = r := by
  have ed : hdrI ks ns r i = hdr0 ks r := by unfold hdrI; rw [show ks.length - 1 - i = 0 by omega]; rfl
  have hl := hdr0_len h r
  have hf := path_fill h
  have hll := lastL_len h r
  have hk3 := h.2.2
  have h2 : 3 ≤ (lastL ks r).length := by omega
  have hk : ks.getD (ks.length - 1) 0 = ks.getD i 0 := by rw [show ks.length - 1 = i by omega]
  have at' : ∀ j, j < 2 → (offL (hdrI ks ns r i ++ [0, 0, 0]) (ks.getD i 0)).getD j 0 = (lastL ks r).getD j 0 := fun j hj => by
    rw [ed, offL_getD (by simp; omega), app_getD_l (by omega)]
    unfold hdr0
    rw [app_getD_l (by rw [onL_len]; omega), onL_getD (by omega), hk]
    exact offon1 _ _ ((lastL_list h hr).2 j (by omega))
  exact ⟨by rw [at' 0 (by omega)]; rfl, by rw [at' 1 (by omega)]; rfl⟩
/-- a layer comes off, whichever -/
theorem peel_ok {ks ns : List Int} (h : PathP ks) (hn : NamesP ns) (hl : ns.length = ks.length) {r : Int} (hr : 0 ≤ r ∧ r ≤ 7) {i : Nat} (hi : i < ks.length) {P : List Int} (hP : offL (hdrI ks ns r i ++ [0, 0, 0]) (ks.getD i 0) = P) :
    (0 ≤ P.getD 0 0 ∧ P.getD 0 0 ≤ 1) ∧ (0 ≤ P.getD 1 0 ∧ P.getD 1 0 ≤ 7) ∧ (i + 1 = ks.length → P.getD 0 0 = 1 ∧ P.getD 1 0 = r) ∧
      (i + 1 < ks.length → P.drop 3 = hdrI ks ns r (i + 1) ∧ P.getD 2 0 = tagL (ks.getD (i + 1) 0) (hdrI ks ns r (i + 1))) := by
  by_cases hi2 : i + 1 < ks.length
  · have e := peel_mid h hn hl hr hi2
    rw [hP] at e
    subst e
    have := hn (i + 1) (by omega)
    exact ⟨by show 0 ≤ (0 : Int) ∧ (0 : Int) ≤ 1; omega, this, fun e => by omega, fun _ => ⟨rfl, rfl⟩⟩
  · have e := peel_last (ns := ns) h hr (i := i) (by omega)
    rw [hP] at e
    exact ⟨by rw [e.1]; omega, by rw [e.2]; exact hr, fun _ => e, fun e2 => by omega⟩
/-- masks taken off, one after the other -/
def offAll (xs ks : List Int) : List Int := ks.foldl offL xs
theorem offAll_len (xs ks : List Int) : (offAll xs ks).length = xs.length := by
  induction ks generalizing xs with
  | nil => rfl
  | cons k ks ih => show (offAll (offL xs k) ks).length = _; rw [ih, offL_len]
theorem offAll_list {xs : List Int} (h : ListP xs) (ks : List Int) : ListP (offAll xs ks) := by
  induction ks generalizing xs with
  | nil => exact h
  | cons k ks ih => exact ih (offL_list h.1 k)
theorem offAll_step {xs ks : List Int} {j : Nat} (hj : j < ks.length) : offAll xs (ks.take (j + 1)) = offL (offAll xs (ks.take j)) (ks.getD j 0) := by
  unfold offAll; rw [take_getD hj]; simp
theorem onAll_offAll {xs : List Int} (h : ListP xs) (ks : List Int) : onAll (offAll xs ks) ks = xs := by
  induction ks generalizing xs with
  | nil => rfl
  | cons k ks ih =>
    show onAll (onL (offAll (offL xs k) ks) k) ks = xs
    rw [onAll_on, ih (offL_list h.1 k), on_off h]
end Go.Proofs.Ytedpkhboepahgaa
