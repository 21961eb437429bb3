/- The program's spend: BinarySearch, Insert by the kit's contracts. -/
import Derived.Test.YtppkbmlbggokkaaDoorSpendP
import Derived.Test.YtppkbmlbggokkaaDoorLay
import Derived.Test.YtppkbmlbggokkaaDoorAudit
import Derived.Test.YtppkbmlbggokkaaDoorIs
import Derived.Test.YtppkbmlbggokkaaDoorTick
import Derived.WalkKit
import Derived.Lib.Hide
import Derived.Deep.QuietTactic
import Derived.BigQuiet
import Derived.Deep.RegionHeld3
import Derived.Deep.RegionWith
namespace Go.Proofs.YtppkbmlbggokkaaDoor
open Go.RowKit
theorem search_any (w : World) (ao : Option Addr) (n cap : Nat) (xs : List Int) (x : Int) (h : IntsAt w ao n cap xs) (hs : xs.Pairwise (· < ·)) (hn : n ≤ 1000000) :
    Calls Tryd.prog 44 #[.slice ao n cap, .int .i64 x] w fun e w' => e = .returned (.tuple #[.int .i64 (posL xs x : Nat), .bool (pb (x ∈ xs))]) ∧ ∃ q, w' = w.drewN q := by
  have hl := h.len
  by_cases h0 : n = 0
  · subst h0
    have hx : xs = [] := List.eq_nil_of_length_eq_zero hl
    subst hx
    refine (Any.slices_BinarySearch_int_empty bsLay ao cap x w).mono ?_
    rintro e w' ⟨rfl, rfl⟩
    exact ⟨by rw [pb_false (by simp)]; rfl, 0, rfl⟩
  · obtain ⟨b, off, rfl, _, hc⟩ := h.addr (by omega)
    have hp : (xs.take n).Pairwise (· ≤ ·) := by
      rw [List.take_of_length_le (by omega)]
      exact hs.imp fun h => Int.le_of_lt h
    refine (Any.slices_BinarySearch_int bsLay b off n cap xs x w (by omega) (by omega) (fun j hj => hc j (by omega)) hp).mono ?_
    rintro e w' ⟨rfl, q, rfl⟩
    rw [List.take_of_length_le (by omega)]
    refine ⟨?_, q, rfl⟩
    have e2 : xs.contains x = pb (x ∈ xs) := by
      by_cases hm : x ∈ xs
      · rw [pb_true hm]; simpa using hm
      · rw [pb_false hm]; simpa using hm
    rw [e2]
    rfl
/-- the program's clone, with its capacity -/
theorem cloneX_any (w : World) (ao : Option Addr) (n cap : Nat) (xs : List Int) (h : IntsAt w ao n cap xs) (hn : n ≤ 1000000) :
    Calls Tryd.prog 32 #[.slice ao n cap] w fun e w' => ∃ g, e = .returned (.slice (some ⟨g, 0, none⟩) n n) ∧ w.heap.size ≤ g ∧ OwnI w.heap.size w' (.slice (some ⟨g, 0, none⟩) n n) xs ∧ w.grownBy w' none := by
  obtain ⟨i0, hi, hz0, hz1, hz2⟩ := info_parts info_int
  have hl := h.len
  have H := Lib.hid hl
  have HA := Lib.hid h
  clear hl h
  go_enter Tryd.func32, Tryd.ntmps32
  go_wp2_with (at_make; refine wpList_make_own w rfl _ _ 23 rfl w.heap.size 3 i0 (.int .i64 0) 1 Tryd.underlying23 hi hz0 hz1 .i64 .i64 n n rfl rfl rfl (by rw [hz2]; omega) (by unfold maxLen; omega) (Nat.le_refl _) ?_; intro w1 o1 g1; refine Hid.out ?_)
  show wpList _ _ _ _ _ _
  have H1 := Lib.hid (HA.out.grown g1)
  go_wp2_with (at_builtin; refine wpList_append_fits_any w1 rfl (.tmp 5) (.tmp 6) 23 rfl w.heap.size 3 i0 1 Tryd.underlying23 hi hz1 w.heap.size 0 n [] rfl o1 ao n cap (xs.map (Value.int .i64)) rfl (by simp [H.out]) (RowAt.nil H1.out) ?_ (ints_one xs) (by omega) ?_)
  · intro ad e j u hu
    subst e
    rcases RowAt.cells H1.out with h0 | ⟨b, off, e2, _, hc⟩
    · have := (List.getElem?_eq_some_iff.1 hu).1
      rw [List.length_map, H.out] at this; omega
    · simp only [Option.some.injEq] at e2
      subst e2
      have := hc j u hu
      simpa [Addr.add_lit] using this
  · intro w2 o2 g2
    have O2 : Hid (OwnI w.heap.size w2 (.slice (some ⟨w.heap.size, 0, none⟩) n n) xs) := Lib.hid (by
      unfold OwnI Own
      rw [List.length_map, H.out]
      simpa using o2)
    have G2 := Lib.hid (grown_new g1 g2 (Nat.le_refl _))
    clear o1 o2 g1 g2 H1
    refine Hid.out ?_
    show wpList _ _ _ _ _ _
    go_wp2
    go_ret
    exact ⟨_, by simp, Nat.le_refl _, O2.out, G2.out⟩
theorem row_own (e : TypeId) (w : World) (cs : List Value) (ROW : Array Value) (G : Nat) (hG : G ≤ 9223372036854775807) (hs : ROW.size = G) (hl : cs.length ≤ G) (ht : ROW.toList.take cs.length = cs) : Own e w.heap.size (w.alloc (.cells ROW e)) (.slice (some ⟨w.heap.size, 0, none⟩) cs.length G) cs := by
  refine ⟨by simp, .inr ⟨w.heap.size, G, ROW, rfl, Nat.le_refl _, heap_alloc_new w _, hl, hG, by simpa using hs, by simpa using ht⟩⟩
def InsPost (w : World) (L : List Int) (e : Ending) (w' : World) : Prop :=
  ∃ ao cap, e = .returned (.slice ao L.length cap) ∧ OwnI w.heap.size w' (.slice ao L.length cap) L ∧ w.grownBy w' none
theorem insert_any (w : World) (g n vb i : Nat) (xs : List Int) (z : Int) (h : IntsAt w (some ⟨g, 0, none⟩) n n xs) (hn : n ≤ 1000) (hi : i ≤ n) (hv : w.cell? ⟨vb, 0, none⟩ = some (.int .i64 z)) :
    Calls Tryd.prog 45 #[.slice (some ⟨g, 0, none⟩) n n, .int .i64 i, .slice (some ⟨vb, 0, none⟩) 1 1] w (InsPost w (xs.take i ++ z :: xs.drop i)) := by
  have hl := h.len
  have hcs : ∀ j v, (xs.map (Value.int .i64))[j]? = some v → w.cell? ⟨g, 0 + j, none⟩ = some v := fun j v hj => by
    rcases RowAt.cells h with h0 | ⟨b, off, e, _, hc⟩
    · have := (List.getElem?_eq_some_iff.1 hj).1
      rw [List.length_map] at this; omega
    · simp only [Option.some.injEq, Addr.mk.injEq, and_true] at e
      obtain ⟨rfl, rfl⟩ := e
      exact hc j v hj
  have hvs : ∀ j v, [Value.int .i64 z][j]? = some v → w.cell? ⟨vb, 0 + j, none⟩ = some v := fun j v hj => by
    cases j with
    | zero => simp at hj; subst hj; exact hv
    | succ j => simp at hj
  have hz1 : ∀ v ∈ [Value.int .i64 z], v.oneCell' = true := fun v hv => by simp at hv; subst hv; rfl
  by_cases hin : i < n
  · refine (Any2.slices_Insert_int_grow insLay g 0 n n i vb 0 1 1 (xs.map (Value.int .i64)) [.int .i64 z] w hin (by omega) (Nat.le_refl _) (by omega) (by omega) (by simpa using hl) rfl hcs hvs (ints_one xs) hz1).mono ?_
    rintro e w' ⟨rfl, rfl⟩
    obtain ⟨G, hG⟩ : ∃ G, grownCap w (n + 1) n (insRen.t 3) = G := ⟨_, rfl⟩
    have hG1 : n + 1 ≤ G := by rw [← hG]; exact grownCap_ge w _ _ _
    have hG2 : G ≤ 9223372036854775807 := by
      have := grownCap_le_maxLen w (n + 1) n (insRen.t 3) (by unfold maxLen; omega)
      rw [hG] at this
      unfold maxLen at this
      omega
    rw [hG]
    obtain ⟨Z, hZ⟩ : ∃ Z, Builtin.zeroCells (Value.int .i64 0).cells (n + 1 - i) = Z := ⟨_, rfl⟩
    obtain ⟨Y, hY⟩ : ∃ Y, Builtin.zeroCells (Value.int .i64 0).cells (G - (n + 1)) = Y := ⟨_, rfl⟩
    have hZl : Z.size = n + 1 - i := by rw [← hZ]; simp [Builtin.zeroCells, Value.cells]
    have hYl : Y.size = G - (n + 1) := by rw [← hY]; simp [Builtin.zeroCells, Value.cells]
    rw [hZ, hY]
    have hcl : ((xs.map (Value.int .i64)).take i).length = i := by simp [hl]; omega
    have o1 := row_own 3 w ((xs.map (Value.int .i64)).take i ++ Z.toList) (((xs.map (Value.int .i64)).take i).toArray ++ Z ++ Y) G hG2 (by simp only [Array.size_append, List.size_toArray, hcl, hZl, hYl]; omega) (by simp only [List.length_append, hcl, Array.length_toList, hZl]; omega) (by
      simp only [Array.toList_append]
      exact List.take_left' rfl)
    have e1 : ((xs.map (Value.int .i64)).take i ++ Z.toList).length = n + 1 := by simp only [List.length_append, hcl, Array.length_toList, hZl]; omega
    rw [e1] at o1
    have o2 := Own.setCells [Value.int .i64 z] i _ _ (Own.grown o1 (gDrew (grown_refl _ none))) (by rw [e1]; simp; omega)
    rw [List.take_left' hcl] at o2
    obtain ⟨cs2, hc2⟩ : ∃ cs2, (xs.map (Value.int .i64)).take i ++ [Value.int .i64 z] ++ ((xs.map (Value.int .i64)).take i ++ Z.toList).drop (i + [Value.int .i64 z].length) = cs2 := ⟨_, rfl⟩
    have hl2 : cs2.length = n + 1 := by
      rw [← hc2, List.length_append, List.length_append, hcl, List.length_drop, e1, List.length_singleton]
      omega
    rw [hc2] at o2
    have hdl : ((xs.map (Value.int .i64)).drop i).length = n - i := by simp [hl]
    have o3 := Own.setCells ((xs.map (Value.int .i64)).drop i) (i + 1) _ _ (Own.grown o2 (gDrew (grown_refl _ none))) (by rw [hdl, hl2]; omega)
    have e4 : cs2.take (i + 1) = (xs.map (Value.int .i64)).take i ++ [Value.int .i64 z] := by
      rw [← hc2]
      exact List.take_left' (by simp only [List.length_append, hcl, List.length_singleton])
    rw [e4, hdl, List.drop_eq_nil_iff.2 (show cs2.length ≤ i + 1 + (n - i) by omega), List.append_nil] at o3
    have e5 : (xs.take i ++ z :: xs.drop i).map (Value.int .i64) = (xs.map (Value.int .i64)).take i ++ [Value.int .i64 z] ++ (xs.map (Value.int .i64)).drop i := by
      rw [List.map_append, List.map_cons, List.map_take, List.map_drop, List.append_assoc]; rfl
    have e6 : (xs.take i ++ z :: xs.drop i).length = n + 1 := by
      rw [List.length_append, List.length_cons, List.length_take, List.length_drop, hl]; omega
    refine ⟨_, G, by rw [e6], ?_, ?_⟩
    · unfold OwnI
      rw [e5, e6]
      exact o3
    · refine grown_new (rb := w.heap.size) (gDrew (grown_alloc w (.cells (((xs.map (Value.int .i64)).take i).toArray ++ Z ++ Y) 3) none)) ?_ (Nat.le_refl _)
      exact grown_trans (grown_setCells _ _ _ _) (grown_trans (gDrew (grown_refl _ _)) (grown_setCells _ _ _ _))
  · have hin' : i = n := by omega
    subst hin'
    refine (Any2.slices_Insert_int_end_grow insLay (some ⟨g, 0, none⟩) i i vb 0 1 1 (xs.map (Value.int .i64)) [.int .i64 z] w (by omega) (Nat.le_refl _) (by omega) (by omega) (by simpa using hl) rfl (by simp) (fun a e j v hj => by
      simp only [Option.some.injEq] at e
      subst e
      have := hcs j v hj
      simpa [Addr.add_lit] using this) hvs hz1).mono ?_
    rintro e w' ⟨rfl, rfl⟩
    obtain ⟨G, hG⟩ : ∃ G, grownCap w (i + 1) i (insRen.t 3) = G := ⟨_, rfl⟩
    have hG1 : i + 1 ≤ G := by rw [← hG]; exact grownCap_ge w _ _ _
    have hG2 : G ≤ 9223372036854775807 := by
      have := grownCap_le_maxLen w (i + 1) i (insRen.t 3) (by unfold maxLen; omega)
      rw [hG] at this
      unfold maxLen at this
      omega
    rw [hG]
    have hL : xs.take i ++ z :: xs.drop i = xs ++ [z] := by
      rw [List.take_of_length_le (by omega), List.drop_eq_nil_iff.2 (by omega)]
    have o := row_own 3 w.drew ((xs ++ [z]).map (Value.int .i64)) ((xs.map (Value.int .i64) ++ [Value.int .i64 z]).toArray ++ Builtin.zeroCells (Value.int .i64 0).cells (G - (i + 1))) G hG2 (by simp [Builtin.zeroCells, Value.cells, hl]; omega) (by simp [hl]; omega) (by
      simp only [Array.toList_append]
      rw [List.map_append]
      exact List.take_left' rfl)
    rw [hL]
    refine ⟨_, G, by rw [List.length_append, hl]; rfl, ?_, ?_⟩
    · have e3 : (xs ++ [z]).length = i + 1 := by simp [hl]
      rw [List.length_map] at o
      exact o
    · exact gAlloc (gDrew (grown_refl _ _)) _
theorem insertL_any (w : World) (g n vb : Nat) (xs : List Int) (z : Int) (h : IntsAt w (some ⟨g, 0, none⟩) n n xs) (hn : n ≤ 1000) (hi : posL xs z ≤ n) (hv : w.cell? ⟨vb, 0, none⟩ = some (.int .i64 z)) :
    Calls Tryd.prog 45 #[.slice (some ⟨g, 0, none⟩) n n, .int .i64 (posL xs z : Nat), .slice (some ⟨vb, 0, none⟩) 1 1] w (InsPost w (insL xs z)) := insert_any w g n vb (posL xs z) xs z h hn hi hv
/-- a sentinel lies in the variable errRefused -/
def RefAt (w : World) : Prop := ∃ b, w.cell? ⟨0, 0, none⟩ = some (.iface 86 (.pointer (some b)))
theorem RefAt.grown {w w' : World} (h : RefAt w) (g : w.grownBy w' none) : RefAt w' := by
  obtain ⟨b, hb⟩ := h
  exact ⟨b, g.cell hb (by simp)⟩
/-- the error of spend: nil, or the sentinel -/
def SpendRes (w : World) (xs : List Int) (p s g : Int) (e : Ending) (w' : World) : Prop :=
  ∃ ao cap v, e = .returned (.tuple #[.slice ao (spL xs p s g).length cap, v]) ∧ OwnI w.heap.size w' (.slice ao (spL xs p s g).length cap) (spL xs p s g) ∧ w.grownBy w' none ∧
    ((GoodP xs p s g ∧ v = .nilIface) ∨ (¬ GoodP xs p s g ∧ w.cell? ⟨0, 0, none⟩ = some v))
set_option maxHeartbeats 4000000 in
theorem spend_any (w : World) (ao : Option Addr) (n cap : Nat) (xs : List Int) (p s g : Int) (h : IntsAt w ao n cap xs) (hs : SpentP xs) (he : RefAt w) :
    Calls Tryd.prog 26 #[.slice ao n cap, .int .i64 p, .agg #[.int .i64 s, .int .i64 g]] w (SpendRes w xs p s g) := by
  obtain ⟨b, hb⟩ := he
  have HN := Lib.hid h.len
  have hn20 : n ≤ 20 := by have := hs.1; have := h.len; omega
  have SO := Lib.hid (spent_sorted hs)
  have HS := Lib.hid hs
  have HA := Lib.hid h
  have HB := Lib.hid hb
  clear h hs hb
  have A1 := HA.out.grown (grown_alloc w (.cells #[.int .i64 s, .int .i64 g] 25) none)
  have D0 : (w.alloc (.cells #[.int .i64 s, .int .i64 g] 25)).heap[w.heap.size]? = some (.cells #[.int .i64 s, .int .i64 g] 25) := heap_alloc_new w _
  have DB := Lib.hid D0
  clear D0
  go_enter Tryd.func26, Tryd.ntmps26
  go_wp2_with fail
  refine (search_any _ _ _ _ xs s A1 SO.out (by omega)).mono ?_
  rintro e w1 ⟨rfl, q, hq⟩
  have g1 : w.grownBy w1 none := by rw [hq]; exact gDrewN (grown_alloc _ _ _) _
  have d1 : w1.heap[w.heap.size]? = some (.cells #[.int .i64 s, .int .i64 g] 25) := by rw [hq]; exact DB.out
  have A2 := Lib.hid (HA.out.grown g1)
  have G1 := Lib.hid g1
  have D1 := Lib.hid d1
  have cs := blkC d1 0 rfl
  have cg := blkC d1 1 rfl
  clear hq g1 d1 A1
  by_cases hm : s ∈ xs
  · have NG := Lib.hid (show ¬ GoodP xs p s g from fun e => e.1.2 hm)
    rw [pb_true hm]
    clear hm
    have EB : w1.drew.cell? ⟨0, 0, none⟩ = some (.iface 86 (.pointer (some b))) := G1.out.cell HB.out (by simp)
    have A3 := Lib.hid (show IntsAt w1.drew ao n cap xs from A2.out.grown (gDrew (grown_refl w1 none)))
    have SL := Lib.hid (spL_no HS.out NG.out)
    go_wp2_with fail
    go_region_held3 (fun w' => w'.cell? ⟨0, 0, none⟩ = some (.iface 86 (.pointer (some b)))) (first | go_keep | exact ex)
      (first | (go_at_call 32; refine (clone_any _ _ _ _ xs A3.out (by omega)).mono ?_; rintro e w5 ⟨a5, c5, rfl, o5, g5⟩; have ex := g5.cell EB (by simp)))
    have GG := Lib.hid (grown_trans (gDrew G1.out) g5)
    have OO := Lib.hid (show OwnI w.heap.size w5 (.slice a5 xs.length c5) xs from o5.lower (by have := G1.out.size; exact this))
    clear o5 g5
    go_wp2
    go_ret2
    exact ⟨a5, c5, _, by rw [SL.out]; rfl, by rw [SL.out]; exact OO.out, GG.out, .inr ⟨NG.out, HB.out⟩⟩
  · rw [pb_false hm]
    by_cases h20 : n = 20
    · have NG := Lib.hid (show ¬ GoodP xs p s g from fun e => by have := e.2; have := HN.out; omega)
      have hb1 : ((n : Int) == 20) = true := by simp; omega
      clear hm h20
      have EB : w1.drew.cell? ⟨0, 0, none⟩ = some (.iface 86 (.pointer (some b))) := G1.out.cell HB.out (by simp)
      have A3 := Lib.hid (show IntsAt w1.drew ao n cap xs from A2.out.grown (gDrew (grown_refl w1 none)))
      have SL := Lib.hid (spL_no HS.out NG.out)
      go_wp2_with fail
      go_region_held3 (fun w' => w'.cell? ⟨0, 0, none⟩ = some (.iface 86 (.pointer (some b)))) (first | go_keep | exact ex)
        (first | (go_at_call 32; refine (clone_any _ _ _ _ xs A3.out (by omega)).mono ?_; rintro e w5 ⟨a5, c5, rfl, o5, g5⟩; have ex := g5.cell EB (by simp)))
      have GG := Lib.hid (grown_trans (gDrew G1.out) g5)
      have OO := Lib.hid (show OwnI w.heap.size w5 (.slice a5 xs.length c5) xs from o5.lower (by have := G1.out.size; exact this))
      clear o5 g5
      go_wp2
      go_ret2
      exact ⟨a5, c5, _, by rw [SL.out]; rfl, by rw [SL.out]; exact OO.out, GG.out, .inr ⟨NG.out, HB.out⟩⟩
    · have hb1 : ((n : Int) == 20) = false := by simp; omega
      go_wp2_with fail
      refine (ticketCheck_any p s g _).mono ?_
      rintro e w2 ⟨rfl, g2⟩
      replace G1 := Lib.hid (grown_trans G1.out g2)
      replace A2 := Lib.hid (A2.out.grown g2)
      have D2 := Lib.hid (blkK g2 D1.out (by simp))
      have cs := blkC D2.out 0 rfl
      have cg := blkC D2.out 1 rfl
      obtain ⟨w1, rfl⟩ : ∃ v, v = w2 := ⟨_, rfl⟩
      clear g2
      cases ht : tkB p s g
      case false =>
        have NG := Lib.hid (show ¬ GoodP xs p s g from fun e => by have := e.1.1; rw [ht] at this; cases this)
        clear hm h20 ht
        have EB : w1.drew.cell? ⟨0, 0, none⟩ = some (.iface 86 (.pointer (some b))) := G1.out.cell HB.out (by simp)
        have A3 := Lib.hid (show IntsAt w1.drew ao n cap xs from A2.out.grown (gDrew (grown_refl w1 none)))
        have SL := Lib.hid (spL_no HS.out NG.out)
        go_wp2_with fail
        go_region_held3 (fun w' => w'.cell? ⟨0, 0, none⟩ = some (.iface 86 (.pointer (some b)))) (first | go_keep | exact ex)
          (first | (go_at_call 32; refine (clone_any _ _ _ _ xs A3.out (by omega)).mono ?_; rintro e w5 ⟨a5, c5, rfl, o5, g5⟩; have ex := g5.cell EB (by simp)))
        have GG := Lib.hid (grown_trans (gDrew G1.out) g5)
        have OO := Lib.hid (show OwnI w.heap.size w5 (.slice a5 xs.length c5) xs from o5.lower (by have := G1.out.size; exact this))
        clear o5 g5
        go_wp2
        go_ret2
        exact ⟨a5, c5, _, by rw [SL.out]; rfl, by rw [SL.out]; exact OO.out, GG.out, .inr ⟨NG.out, HB.out⟩⟩
      case true =>
        have GP := Lib.hid (show GoodP xs p s g from ⟨⟨ht, hm⟩, by rw [HN.out]; omega⟩)
        have SL := Lib.hid (spL_yes HS.out GP.out)
        have PL := posL_le xs s
        rw [HN.out] at PL
        have A3 := Lib.hid (show IntsAt w1.drew ao n cap xs from A2.out.grown (gDrew (grown_refl w1 none)))
        have E3 : w1.drew.cell? ⟨w.heap.size, 0, none⟩ = some (.int .i64 s) := cs
        have HZ := Lib.hid (show w.heap.size < w1.heap.size from blkL D2.out)
        clear hm h20 ht
        go_wp2_with fail
        go_region_with (first
          | (go_at_call 32; refine (cloneX_any _ _ _ _ xs (A2.out.grown (by (repeat (with_reducible (first | refine gDrew ?_ | refine gDrewN ?_ _ | refine gAlloc ?_ _))); exact grown_refl _ _)) (by omega)).mono ?_; rintro e w5 ⟨g5, rfl, hg5, o5, gr5⟩; have ex := gr5.cell (show World.cell? _ ⟨w.heap.size, 0, none⟩ = some (.int .i64 s) from (show w1.grownBy _ none from (by (repeat (with_reducible (first | refine gDrew ?_ | refine gDrewN ?_ _ | refine gAlloc ?_ _))); exact grown_refl _ _)).cell cs (by simp)) (by simp))
          | (go_at_call 45; refine (insertL_any _ _ n _ xs s ((OwnI.ints o5).1.grown (by (repeat (with_reducible (first | refine gDrew ?_ | refine gDrewN ?_ _ | refine gAlloc ?_ _))); exact grown_refl _ _)) (by omega) PL (by first | exact cellN (grown_refl _ none) 0 rfl | exact cellN (w := w1.drew) gr5 0 rfl | exact cellN (w := w1) (cs := #[.int .i64 s]) (e := 3) (grown_trans (gDrew (grown_refl _ none)) gr5) 0 rfl)).mono ?_; rintro e w6 ⟨a6, c6, rfl, o6, gr6⟩))
        all_goals go_wp2
        all_goals go_ret2
        all_goals exact ⟨a6, c6, _, by rw [SL.out]; rfl, by rw [SL.out]; exact Own.lower o6 (grown_trans (grown_trans (grown_trans G1.out (by (repeat (with_reducible (first | refine gDrew ?_ | refine gDrewN ?_ _ | refine gAlloc ?_ _))); exact grown_refl _ _)) gr5) (by (repeat (with_reducible (first | refine gDrew ?_ | refine gDrewN ?_ _ | refine gAlloc ?_ _))); exact grown_refl _ _)).size, grown_trans (grown_trans (grown_trans G1.out (by (repeat (with_reducible (first | refine gDrew ?_ | refine gDrewN ?_ _ | refine gAlloc ?_ _))); exact grown_refl _ _)) gr5) (grown_trans (by (repeat (with_reducible (first | refine gDrew ?_ | refine gDrewN ?_ _ | refine gAlloc ?_ _))); exact grown_refl _ _) gr6), .inl ⟨GP.out, rfl⟩⟩
end Go.Proofs.YtppkbmlbggokkaaDoor
