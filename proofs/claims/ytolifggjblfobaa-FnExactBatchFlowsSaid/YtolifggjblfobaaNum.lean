/- numbered: a map of the call's own behind a function value. -/
import Derived.Test.YtolifggjblfobaaViewP
import Derived.WalkKit
import Derived.Lib.Hide
import Derived.Deep.QuietTactic
import Derived.BigQuiet
import Derived.Maps.OwnSet
import Derived.Maps.OwnOps
import Derived.Maps.Views
namespace Go.Proofs.Ytolifggjblfobaa
open Go.RowKit Go.Maps
def In64 (x : Int) : Prop := -9223372036854775808 ≤ x ∧ x ≤ 9223372036854775807
theorem wf64 {x : Int} (h : In64 x) : (Lit.int .i64 x).wf = true := by
  unfold In64 at h
  simp [Lit.wf, IntKind.min, IntKind.max, IntKind.signed, IntKind.bits]
  omega
abbrev kx (x : Int) : Lit := .int .i64 x
/-- D numbers the names ns -/
structure NumD (D : DataW Unit) (ns : List Int) : Prop where
  has : ∀ x, In64 x → Maps.has D (kx x) = decide (x ∈ ns)
  at_ : ∀ x, In64 x → x ∈ ns → ∀ z, D.atKey (kx x) z = .lit (.int .i64 (ns.idxOf x : Nat))
  size : Maps.size D = ns.length
def NumAt (w : World) (vb mb : Nat) (ns : List Int) : Prop :=
  w.heap[vb]? = some (.cells #[.map (some mb)] 63 (0, 0)) ∧ vb ≠ mb ∧ ∃ D : DataW Unit, w.ownsMap Try.prog 3 (plainElem Try.prog 3) mb ns.length D ∧ NumD D ns
theorem NumAt.row {w w' : World} {vb mb : Nat} {ns : List Int} {row : Option Nat} (h : NumAt w vb mb ns) (hg : w.grownBy w' row) (h1 : some vb ≠ row) (h2 : some mb ≠ row) : NumAt w' vb mb ns := by
  obtain ⟨hb, hne, D, ho, hd⟩ := h
  exact ⟨blkK hg hb h1, hne, D, World.ownsMap.kept ho hg h2, hd⟩
theorem numD_nil : NumD (.map []) [] := ⟨fun x _ => by simp [Maps.has], fun x _ h => by simp at h, rfl⟩
theorem kx_key (x : Int) : WideAt.IsKeyLit (kx x) := by simp [WideAt.IsKeyLit]
theorem numD_put {D : DataW Unit} {ns : List Int} (h : NumD D ns) (hD : IsMap D) (hT : Tidy D) {x : Int} (hx : In64 x) (hn : ¬ x ∈ ns) : NumD (D.put (kx x) (.lit (.int .i64 (ns.length : Nat)))) (ns ++ [x]) := by
  refine ⟨fun y hy => ?_, fun y hy hm z => ?_, ?_⟩
  · by_cases e : y = x
    · subst e
      rw [has_put_same hD (kx_key y)]; simp
    · rw [has_put_other (by intro e2; simp [kx] at e2; exact e e2), h.has y hy]
      simp [e]
  · by_cases e : y = x
    · subst e
      rw [atKey_put_same hD (kx_key y), List.idxOf_append, if_neg hn]
      simp
    · have hm' : y ∈ ns := by simpa [e] using hm
      rw [atKey_put_other (by intro e2; simp [kx] at e2; exact e e2), h.at_ y hy hm', List.idxOf_append, if_pos hm']
  · rw [size_put hT, h.has x hx, h.size]
    simp [hn]
def NumberedPost (w : World) (e : Ending) (w' : World) : Prop :=
  ∃ vb mb, e = .returned (.func (Fn.func 54) #[] #[.pointer (some ⟨vb, 0, none⟩)]) ∧ w.heap.size ≤ mb ∧ w.heap.size ≤ vb ∧ NumAt w' vb mb [] ∧ w.grownBy w' none
set_option maxHeartbeats 1000000 in
theorem numbered_any (w : World) : Calls Try.prog 40 #[] w (NumberedPost w) := by
  have hmm := @run_makeMap Try.prog
  have ho : NumAt ((w.alloc (.map #[] 0)).alloc (.cells #[.map (some w.heap.size)] 63)) (w.heap.size + 1) w.heap.size [] := by
    have hz : (w.alloc (.map #[] 0)).heap.size = w.heap.size + 1 := by simp
    refine ⟨?_, by omega, .map [], (World.ownsMap_made w Try.prog 3 (plainElem Try.prog 3)).alloc _, numD_nil⟩
    rw [← hz]
    exact heap_alloc_new _ _
  have HO := Lib.hid ho
  have G := Lib.hid (gAlloc (grown_alloc w (.map #[] 0) none) (.cells #[.map (some w.heap.size)] 63))
  clear ho
  go_enter Try.func40, Try.ntmps40
  go_wp2
  go_ret
  exact ⟨w.heap.size + 1, w.heap.size, rfl, Nat.le_refl _, by omega, HO.out, G.out⟩
def NumPost (w : World) (vb mb : Nat) (ns : List Int) (x : Int) (e : Ending) (w' : World) : Prop :=
  e = .returned (.int .i64 (ns.idxOf x : Nat)) ∧ NumAt w' vb mb (addN ns x) ∧ w.grownBy w' (some mb)
theorem law_int : Keyed Try.prog 3 := int_keyed Try.underlying3
theorem zero_int (w : World) : (zeroValue 3).run Try.prog w = .ok (.int .i64 0) w := by kernel_rfl
set_option maxHeartbeats 1000000 in
theorem number_any (w : World) (vb mb : Nat) (ns : List Int) (x : Int) (h : NumAt w vb mb ns) (hx : In64 x) (hl : ns.length ≤ 1000) :
    Calls Try.prog 54 #[.int .i64 x, .pointer (some ⟨vb, 0, none⟩)] w (NumPost w vb mb ns x) := by
  obtain ⟨hb, hne, D, ho, hd⟩ := h
  have c0 : w.cell? ⟨vb, 0, none⟩ = some (.map (some mb)) := blkC hb 0 rfl
  have HB := Lib.hid hb
  have HD := Lib.hid hd
  have hk := keyOf_int_mk (P := Try.prog) Try.underlying3 (wf64 hx)
  have HK := Lib.hid hk
  have HX := Lib.hid hx
  clear hb hd hk hx
  by_cases hm : x ∈ ns
  · have R := Lib.hid (HD.out.at_ x HX.out hm (.lit (.int .i64 0)))
    have RH := Lib.hid (show Maps.has D (kx x) = true by rw [HD.out.has x HX.out]; simpa using hm)
    have RA := Lib.hid (addN_yes hm)
    clear hm
    go_enter Try.func54, Try.ntmps54
    go_wp2_with (at_lookup; refine wpList_lookup_own_ok_int w rfl _ _ 63 rfl 3 3 .i64 law_int Try.underlying63 Try.underlying3 (zero_int w) mb ns.length D rfl ho _ (kx x) rfl HK.out ?_; intro c hat _; refine Hid.out ?_)
    show wpList _ _ _ _ _ _
    rw [R.out] at hat
    simp only [DataW.lit.injEq, Lit.int.injEq, true_and] at hat
    subst hat
    rw [RH.out]
    go_wp2
    go_ret
    exact ⟨rfl, by rw [RA.out]; exact ⟨HB.out, hne, D, ho, HD.out⟩, grown_refl _ _⟩
  · have RH := Lib.hid (show Maps.has D (kx x) = false by rw [HD.out.has x HX.out]; simpa using hm)
    have RA := Lib.hid (addN_no hm)
    have RS := Lib.hid HD.out.size
    have RI := Lib.hid (show ns.idxOf x = ns.length from List.idxOf_eq_length hm)
    have HN := Lib.hid (numD_put HD.out (World.ownsMap.isMap ho) (World.ownsMap.tidy ho law_int) HX.out hm)
    clear hm
    go_enter Try.func54, Try.ntmps54
    go_wp2_with (at_lookup; refine wpList_lookup_own_ok_int w rfl _ _ 63 rfl 3 3 .i64 law_int Try.underlying63 Try.underlying3 (zero_int w) mb ns.length D rfl ho _ (kx x) rfl HK.out ?_; intro c hat _; refine Hid.out ?_)
    show wpList _ _ _ _ _ _
    rw [RH.out]
    clear hat
    go_wp2_with (at_len; refine wpList_len_own w rfl _ 63 rfl 3 3 Try.underlying63 (plainElem Try.prog 3) mb ns.length D rfl ho ?_; refine Hid.out ?_)
    show wpList _ _ _ _ _ _
    rw [RS.out]
    have hv : plainElem (H := Unit) Try.prog 3 (.int .i64 (ns.length : Nat)) = some (.lit (.int .i64 (ns.length : Nat)), []) := plainElem_int Try.underlying3 (wf64 ⟨by omega, by omega⟩)
    have HV := Lib.hid hv
    clear hv
    go_wp2_with (at_mapUpdate; refine wpList_mapUpdate_own w rfl _ _ _ 63 rfl 3 3 law_int Try.underlying63 (plainElem Try.prog 3) mb ns.length D rfl ho (by unfold maxLen; omega) _ _ (kx x) rfl rfl HK.out _ [] HV.out ?_; intro w1 ho1 g1; refine Hid.out ?_)
    show wpList _ _ _ _ _ _
    have NA : Hid (NumAt w1 vb mb (ns ++ [x])) := Lib.hid ⟨blkK g1 HB.out (by simpa using hne), hne, _, by rw [List.length_append]; exact ho1, HN.out⟩
    have G1 := Lib.hid g1
    clear ho1 g1 ho
    go_wp2
    go_ret
    exact ⟨by rw [RI.out]; rfl, by rw [RA.out]; exact NA.out, G1.out⟩
end Go.Proofs.Ytolifggjblfobaa
