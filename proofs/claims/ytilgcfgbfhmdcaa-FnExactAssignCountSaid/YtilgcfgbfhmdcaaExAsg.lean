/- Copies and comparisons of tables of bools; the walks of FnExactAssignValid and FnExactAssignCount. -/
import Derived.Test.YtilgcfgbfhmdcaaAsgC
import Derived.WalkKit
import Derived.Lib.Hide
import Derived.Deep.QuietTactic
import Derived.BigQuiet
import Derived.StillTailTactics
namespace Go.Proofs.Ytilgcfgbfhmdcaa
open Go.RowKit
theorem drawn2 {P : Program} {f : FuncId} {args : Array Value} {w : World} {n : Nat} {v v' : Value}
    (h : Calls P f args (w.drewN n) fun e w' => e = .returned v ∧ ∃ d, w' = (w.drewN n).drewN d) (hv : v = v') : Calls P f args (w.drewN n) fun e w'' => e = .returned v' ∧ ∃ m, w'' = w.drewN m :=
  h.mono fun _ _ ⟨he, d, hd⟩ => ⟨hv ▸ he, by rw [hd]; exact drewN_more ⟨n, rfl⟩ d⟩
theorem szBoolS_any (w : World) (ao : Option Addr) (n cap : Nat) (left : Int) (hn : n ≤ 9223372036854775807) (h0 : 0 ≤ left) (h1 : left ≤ 1048576) :
    Calls Try.prog 18 #[.slice ao n cap, .int .i64 left] w fun e w' => ∃ r : Int, e = .returned (.int .i64 r) ∧ w = w' ∧ (r = -1 ∨ (r = left - n ∧ (n : Int) ≤ left)) := by
  by_cases h : left - (n : Int) < 0
  · go_enter Try.func18, Try.ntmps18
    go_wp2
    go_ret
    exact ⟨_, rfl, rfl, .inl rfl⟩
  · go_enter Try.func18, Try.ntmps18
    go_wp2
    go_ret
    exact ⟨_, rfl, rfl, .inr ⟨rfl, by omega⟩⟩
def SzPost (w : World) (n : Nat) (rows : List (List Bool)) (e : Ending) (w' : World) : Prop :=
  ∃ r : Int, e = .returned (.int .i64 r) ∧ w = w' ∧ (r = -1 ∨ (0 ≤ r ∧ r ≤ 1048576 ∧ n ≤ 1048576 ∧ ∀ i, i < n → (rows.getD i []).length ≤ 1048576))
set_option maxHeartbeats 1000000 in
theorem szBoolSS_any (w : World) (ao : Option Addr) (n cap : Nat) (rows : List (List Bool)) (h : GridAt w ao n cap rows) :
    Calls Try.prog 10 #[.slice ao n cap, .int .i64 1048576] w (SzPost w n rows) := by
  have hm := TabAt.le h
  by_cases h0 : (1048576 : Int) - (n : Int) < 0
  · go_enter Try.func10, Try.ntmps10
    go_wp2
    go_ret
    exact ⟨_, rfl, rfl, .inl rfl⟩
  · have B0 := Lib.hid (show ∀ i, i < 0 → (rows.getD i []).length ≤ 1048576 from fun i hi => by omega)
    go_enter Try.func10, Try.ntmps10
    go_wp2
    go_loopw [1, 5] (fun l q wr => ∃ (i : Nat) (L : Int), i ≤ n ∧ q = .int .i64 i ∧ l = .int .i64 L ∧ 0 ≤ L ∧ L ≤ 1048576 ∧ wr = w ∧ Hid (∀ j, j < i → (rows.getD j []).length ≤ 1048576)) (fun _ q _ => n - (intOf q).toNat)
    case atStart => exact ⟨0, 1048576 - n, by omega, rfl, rfl, by omega, by omega, rfl, B0⟩
    case round =>
      clear B0
      obtain ⟨i, L, hi, rfl, rfl, l0, l1, rfl, hb⟩ := hrel
      by_cases hin : i < n
      · obtain ⟨b, off, ro, rc, rfl, cc, hr⟩ := h.at i hin
        have mx := RowAt.max hr
        have ml := RowAt.le hr
        obtain ⟨row, hrow⟩ : ∃ row, rows.getD i [] = row := ⟨_, rfl⟩
        obtain ⟨k, hk⟩ : ∃ k, row.length = k := ⟨_, rfl⟩
        rw [hrow, hk] at cc ml
        have HK := Lib.hid (show (rows.getD i []).length = k by rw [hrow, hk])
        clear hr hrow hk
        have mx' : k ≤ 9223372036854775807 := by omega
        clear mx
        go_wp2_with fail
        refine (szBoolS_any _ _ _ _ _ mx' l0 l1).mono ?_
        rintro e w1 ⟨r, rfl, rfl, hr | ⟨hr, hr2⟩⟩
        · subst hr
          go_wp2
          go_ret
          exact ⟨_, rfl, rfl, .inl rfl⟩
        · have r0 : ¬ r < 0 := by omega
          have r1 : r ≤ 1048576 := by omega
          have k1 : k ≤ 1048576 := by omega
          clear hr hr2 mx' ml
          go_wp2
          go_roundw
          case rel => exact ⟨i + 1, r, by omega, by go_num, rfl, by omega, r1, trivial, fun j hj => by
            by_cases e : j = i
            · subst e; rw [HK.out]; exact k1
            · exact hb.out j (by omega)⟩
          case measure => simp [intOf]; omega
      · have hin' : i = n := by omega
        subst hin'
        go_wp2
        go_ret
        exact ⟨_, rfl, rfl, .inr ⟨l0, l1, by omega, hb.out⟩⟩
theorem bcopy_step {α : Type} (d : α) (xs : List α) (n k : Nat) (hk : k < n) (hn : xs.length = n) : (xs.take k ++ List.replicate (n - k) d).set k (xs.getD k d) = xs.take (k + 1) ++ List.replicate (n - (k + 1)) d := by
  have hl : (xs.take k).length = k := by simp; omega
  rw [List.set_append_right _ _ (by omega), hl, Nat.sub_self, List.take_succ_eq_append_getElem (by omega), show n - k = (n - (k + 1)) + 1 by omega, List.replicate_succ, List.set_cons_zero, List.append_assoc]
  simp [List.getD_eq_getElem?_getD, List.getElem?_eq_getElem (l := xs) (i := k) (by omega)]
theorem bcopy_end {α : Type} (d : α) (xs : List α) (n : Nat) (hn : xs.length = n) : xs.take n ++ List.replicate (n - n) d = xs := by
  rw [Nat.sub_self, List.take_of_length_le (by omega)]; simp
theorem row_at1 {B : Nat} {w : World} {g : Nat} {n cap : Nat} {xs : List Bool} (h : OwnB B w (.slice (some ⟨g, 0, none⟩) n cap) xs) (k : Nat) (hk : k < xs.length) :
    (∃ v0, w.cell? ⟨g, k, none⟩ = some v0) ∧ w.frozen? ⟨g, k, none⟩ = false ∧ B ≤ g ∧ ∀ x, OwnB B (w.setCell ⟨g, k, none⟩ (.bool x)) (.slice (some ⟨g, 0, none⟩) n cap) (xs.set k x) := by
  obtain ⟨g', e1, _, hB, _, hc, hf, hs⟩ := Own.at h (by rw [List.length_map]; omega)
  simp only [Option.some.injEq, Addr.mk.injEq, and_true] at e1
  subst e1
  refine ⟨⟨.bool xs[k], hc k _ (by rw [List.getElem?_map, List.getElem?_eq_getElem hk]; rfl)⟩, hf k, hB, fun x => ?_⟩
  have := hs k (.bool x)
  unfold OwnB
  rw [List.map_set]
  exact this
set_option maxHeartbeats 1000000 in
theorem toBoolS_any (w : World) (ao : Option Addr) (n cap : Nat) (xs : List Bool) (h : BoolsAt w ao n cap xs) (hn : n ≤ 1000000000) :
    Calls Try.prog 20 #[.slice ao n cap] w fun e w' => ∃ v, e = .returned v ∧ OwnB w.heap.size w' v xs ∧ w.grownBy w' none := by
  obtain ⟨i0, hi, hz0, hz1, hz2⟩ := info_parts info_bool
  have hl := h.len
  have H := Lib.hid hl
  clear hl
  go_enter Try.func20, Try.ntmps20
  go_wp2_with (at_make; refine wpList_make_full w rfl _ _ 30 rfl w.heap.size 4 i0 (.bool false) 1 Try.underlying30 hi hz0 hz1 .i64 .i64 n n n rfl rfl rfl rfl (by rw [hz2]; omega) (by unfold maxLen; omega) (Nat.le_refl _) ?_; intro w1 o1 g1)
  rw [made_bools] at o1
  have o2 : OwnB w.heap.size w1 (.slice (some ⟨w.heap.size, 0, none⟩) n n) (xs.take 0 ++ List.replicate (n - 0) false) := by
    unfold OwnB Own
    simpa using o1
  have O2 := Lib.hid o2
  have G1 := Lib.hid g1
  clear o1 o2 g1 hi hz0 hz1 hz2
  go_loopw [4] (fun i wr => ∃ k : Nat, k ≤ n ∧ i = .int .i64 k ∧ Hid (w.grownBy wr none) ∧ Hid (OwnB w.heap.size wr (.slice (some ⟨w.heap.size, 0, none⟩) n n) (xs.take k ++ List.replicate (n - k) false))) (fun i _ => n - (intOf i).toNat)
  case atStart => exact ⟨0, Nat.zero_le _, rfl, G1, O2⟩
  case round =>
    clear O2 G1
    obtain ⟨k, hk, rfl, hg, ho⟩ := hrel
    by_cases hlt : k < n
    · have hlen : (xs.take k ++ List.replicate (n - k) false).length = n := by have := H.out; simp; omega
      obtain ⟨b, off, rfl, hb, cz⟩ := BoolsAt.get (BoolsAt.grown h hg.out) k hlt
      obtain ⟨⟨v0, c2⟩, f2, _, hset⟩ := row_at1 ho.out k (by rw [hlen]; exact hlt)
      obtain ⟨z, hz⟩ : ∃ z, xs.getD k false = z := ⟨_, rfl⟩
      rw [hz] at cz
      have hst := hset z
      rw [← hz, bcopy_step false xs n k hlt H.out, hz] at hst
      have Hst := Lib.hid hst
      have Gst := Lib.hid (gSet hg.out (p := ⟨w.heap.size, k, none⟩) (Nat.le_refl _) (.bool z))
      clear hst hz hset hlen
      go_wp2
      go_roundw
      case rel => exact ⟨k + 1, by omega, by go_num, Gst, Hst⟩
      case measure => simp [intOf]; omega
    · have hkn : k = n := by omega
      have o3 := ho.out
      rw [hkn, bcopy_end false xs n H.out] at o3
      have O3 := Lib.hid o3
      clear hkn o3
      go_wp2
      go_ret
      exact ⟨_, rfl, O3.out, hg.out⟩
set_option maxHeartbeats 1000000 in
theorem eqBoolS_same (w : World) (ao : Option Addr) (n cap : Nat) (bo : Option Addr) (cap' : Nat) (xs : List Bool) (h : BoolsAt w ao n cap xs) (h' : BoolsAt w bo n cap' xs) :
    Calls Try.prog 22 #[.slice ao n cap, .slice bo n cap'] w fun e w' => e = .returned (.bool true) ∧ ∃ d, w' = w.drewN d := by
  have hm := RowAt.max h
  have hnm := RowAt.le h
  go_enter Try.func22, Try.ntmps22
  go_wp2
  go_loopw [5] (fun i wr => ∃ k : Nat, k ≤ n ∧ i = .int .i64 k ∧ Hid (∃ d, wr = w.drewN d)) (fun i _ => n - (intOf i).toNat)
  case atStart => exact ⟨0, Nat.zero_le _, rfl, ⟨0, rfl⟩⟩
  case round =>
    obtain ⟨k, hk, rfl, hd⟩ := hrel
    by_cases hlt : k < n
    · obtain ⟨b, off, rfl, _, cz⟩ := BoolsAt.get h k hlt
      obtain ⟨b', off', rfl, _, cy⟩ := BoolsAt.get h' k hlt
      obtain ⟨z, hz⟩ : ∃ z, xs.getD k false = z := ⟨_, rfl⟩
      rw [hz] at cz cy
      rw [← drewN_cell hd] at cz cy
      clear hz
      have i0 : (0 : Int) ≤ (k : Int) := by omega
      have i1 : (k : Int) < n := by omega
      go_wp2_with fail
      go_quiet (fail)
      go_wp2
      go_roundw
      case rel => exact ⟨k + 1, by omega, by go_num, drewN_more hd _⟩
      case measure => simp [intOf]; omega
    · go_wp2
      go_ret
      exact ⟨rfl, hd.out⟩
theorem nil_rows (B : Nat) (w : World) (v : Value) (n : Nat) (h : Own 30 B w v (List.replicate n (.slice none 0 0))) : OwnG B w.heap.size w v (List.replicate n []) := by
  refine ⟨_, h, fun k hk => (h.bound k hk).2, by simp, fun i r hi => ?_, fun i j u u' _ hu _ => ?_⟩
  · have hr := (List.getElem?_eq_some_iff.1 hi)
    obtain ⟨hl, hr⟩ := hr
    simp only [List.getElem_replicate] at hr
    subst hr
    simp only [List.length_replicate] at hl
    exact ⟨.slice none 0 0, by simp [hl], ⟨rfl, .inl ⟨rfl, rfl⟩⟩, fun k hk => by simp [Value.ownBlock] at hk⟩
  · have hr := (List.getElem?_eq_some_iff.1 hu)
    obtain ⟨hl, hr⟩ := hr
    simp only [List.getElem_replicate] at hr
    subst hr
    exact .inl rfl
theorem made_rows (n : Nat) : (madeCells (Value.slice none 0 0).cells (n * 1)).toList = List.replicate n (Value.slice none 0 0) := by
  rw [Nat.mul_one]
  exact toList_madeCells_one (.slice none 0 0) n
set_option maxHeartbeats 1000000 in
theorem toBoolSS_any (w : World) (ao : Option Addr) (n cap : Nat) (rows : List (List Bool)) (h : GridAt w ao n cap rows) (hn : n ≤ 1048576) (hr : ∀ i, i < n → (rows.getD i []).length ≤ 1048576) :
    Calls Try.prog 12 #[.slice ao n cap] w fun e w' => ∃ a1 c1, e = .returned (.slice a1 n c1) ∧ GridAt w' a1 n c1 rows ∧ w.grownBy w' none := by
  obtain ⟨i0, hi, hz0, hz1, hz2⟩ := info_parts info_bools
  have H := Lib.hid h.len
  have HR := Lib.hid hr
  clear hr
  go_enter Try.func12, Try.ntmps12
  go_wp2_with (at_make; refine wpList_make_full w rfl _ _ 22 rfl w.heap.size 30 i0 (.slice none 0 0) 1 Try.underlying22 hi hz0 hz1 .i64 .i64 n n n rfl rfl rfl rfl (by rw [hz2]; omega) (by unfold maxLen; omega) (Nat.le_refl _) ?_; intro w1 o1 g1)
  rw [made_rows] at o1
  have o2 : OwnG w.heap.size w1.heap.size w1 (.slice (some ⟨w.heap.size, 0, none⟩) n n) (rows.take 0 ++ List.replicate (n - 0) []) := by
    rw [List.take_zero, List.nil_append, Nat.sub_zero]
    refine nil_rows _ _ _ _ ?_
    unfold Own
    simpa using o1
  have O2 := Lib.hid o2
  have G1 := Lib.hid g1
  clear o1 o2 g1 hi hz0 hz1 hz2
  go_loopw [4] (fun i wr => ∃ k : Nat, k ≤ n ∧ i = .int .i64 k ∧ Hid (w.grownBy wr none) ∧ Hid (OwnG w.heap.size wr.heap.size wr (.slice (some ⟨w.heap.size, 0, none⟩) n n) (rows.take k ++ List.replicate (n - k) []))) (fun i _ => n - (intOf i).toNat)
  case atStart => exact ⟨0, Nat.zero_le _, rfl, G1, O2⟩
  case round =>
    clear O2 G1
    obtain ⟨k, hk, rfl, hg, ho⟩ := hrel
    by_cases hlt : k < n
    · have hlen : (rows.take k ++ List.replicate (n - k) []).length = n := by have := H.out; simp; omega
      have zo := hg.out.size
      obtain ⟨b, off, ro, rc, rfl, cc, hrow⟩ := (h.grown hg.out).at k hlt
      have HL := Lib.hid (HR.out k hlt)
      obtain ⟨row, hz⟩ : ∃ z, rows.getD k [] = z := ⟨_, rfl⟩
      obtain ⟨l, hll⟩ : ∃ l, row.length = l := ⟨_, rfl⟩
      rw [hz, hll] at cc hrow HL
      have step := bcopy_step [] rows n k hlt H.out
      rw [hz] at step
      have HS := Lib.hid step
      have HLEN := Lib.hid hlen
      clear hz hll step hlen
      go_wp2_with fail
      refine (toBoolS_any _ _ _ _ _ hrow (by have := HL.out; omega)).mono ?_
      rintro e w2 ⟨v, rfl, o2, g2⟩
      obtain ⟨g, e1, hBg, ⟨v0, c2⟩, f2, hst⟩ := OwnTab.setRow (OwnTab.grown ho.out g2) (by decide) zo k (by rw [HLEN.out]; exact hlt) o2
      simp only [Option.some.injEq, Addr.mk.injEq, and_true] at e1
      subst e1
      rw [HS.out] at hst
      have Gst := Lib.hid (gSet (grown_trans hg.out g2) (p := ⟨w.heap.size, k, none⟩) (Nat.le_refl _) v)
      have Hst := Lib.hid (OwnTab.now hst)
      obtain ⟨vo, vc, rfl, _⟩ := OwnB.shape o2
      clear hst o2 g2 hg ho cc hrow HLEN HS HL zo hBg
      go_wp2
      go_roundw
      case rel => exact ⟨k + 1, by omega, by go_num, Gst, Hst⟩
      case measure => simp [intOf]; omega
    · have hkn : k = n := by omega
      have o3 := ho.out
      rw [hkn, bcopy_end [] rows n H.out] at o3
      have SH := o3.shape
      rw [H.out] at SH
      obtain ⟨q1, q2, e9, hga⟩ := SH
      simp only [Value.slice.injEq, true_and] at e9
      obtain ⟨e10, e11⟩ := e9
      subst e10 e11
      have O3 := Lib.hid hga
      clear hkn o3 hga
      go_wp2
      go_ret
      exact ⟨_, _, rfl, O3.out, hg.out⟩
set_option maxHeartbeats 1000000 in
theorem eqBoolSS_same (w : World) (ao : Option Addr) (n cap : Nat) (bo : Option Addr) (cap' : Nat) (rows : List (List Bool)) (h : GridAt w ao n cap rows) (h' : GridAt w bo n cap' rows) :
    Calls Try.prog 14 #[.slice ao n cap, .slice bo n cap'] w fun e w' => e = .returned (.bool true) ∧ ∃ d, w' = w.drewN d := by
  have hm := TabAt.le h
  have HM := Lib.hid hm
  clear hm
  go_enter Try.func14, Try.ntmps14
  go_wp2
  go_loopw [5] (fun i wr => ∃ k : Nat, k ≤ n ∧ i = .int .i64 k ∧ Hid (∃ d, wr = w.drewN d)) (fun i _ => n - (intOf i).toNat)
  case atStart => exact ⟨0, Nat.zero_le _, rfl, ⟨0, rfl⟩⟩
  case round =>
    obtain ⟨k, hk, rfl, hd⟩ := hrel
    have hm := HM.out
    by_cases hlt : k < n
    · have gr : w.grownBy wr none := by
        obtain ⟨d, e⟩ := hd.out
        subst e
        exact grown_drewN _ _ _
      obtain ⟨b, off, ro, rc, rfl, cz, hr⟩ := (h.grown gr).at k hlt
      obtain ⟨b', off', ro', rc', rfl, cy, hr'⟩ := (h'.grown gr).at k hlt
      obtain ⟨row, hz⟩ : ∃ z, rows.getD k [] = z := ⟨_, rfl⟩
      obtain ⟨l, hll⟩ : ∃ l, row.length = l := ⟨_, rfl⟩
      rw [hz, hll] at cz cy hr hr'
      clear hz hll gr
      have i0 : (0 : Int) ≤ (k : Int) := by omega
      have i1 : (k : Int) < n := by omega
      go_wp2_with fail
      go_quiet (with_reducible exact drawn2 (eqBoolS_same _ _ _ _ _ _ row (hr.grown (grown_drewN _ _ _)) (hr'.grown (grown_drewN _ _ _))) rfl)
      go_wp2
      go_roundw
      case rel => exact ⟨k + 1, by omega, by go_num, drewN_more hd _⟩
      case measure => simp [intOf]; omega
    · go_wp2
      go_ret
      exact ⟨rfl, hd.out⟩
set_option maxHeartbeats 1000000 in
theorem fnExactAssignCount_walk (ao : Option Addr) (n cap : Nat) (rows : List (List Bool)) (w : World) (h : GridAt w ao n cap rows) :
    Calls Try.prog 9 #[.slice ao n cap] w fun e w' => e = .returned (.bool true) ∧ w.grownBy w' none := by
  go_enter Try.func9, Try.ntmps9
  go_wp2_with fail
  refine (szBoolSS_any _ _ _ _ _ h).mono ?_
  rintro e w1 ⟨r, rfl, rfl, rfl | ⟨r0, r1, n1, hl⟩⟩
  · go_wp2
    go_ret
    exact ⟨rfl, grown_refl _ _⟩
  · have r0' : ¬ r < 0 := by omega
    go_wp2_with fail
    refine (toBoolSS_any _ _ _ _ _ h n1 hl).mono ?_
    rintro e w2 ⟨a2, c2, rfl, t2, g2⟩
    go_wp2_with fail
    refine (assignCountS_any _ _ _ _ _ t2).mono ?_
    rintro e w3 ⟨rfl, g3⟩
    have g3' := grown_trans g2 g3
    clear g2 g3 t2
    go_wp2_with fail
    refine (toBoolSS_any _ _ _ _ _ (h.grown g3') n1 hl).mono ?_
    rintro e w4 ⟨a4, c4, rfl, t4, g4⟩
    have g4' := grown_trans g3' g4
    clear g3' g4
    go_wp2_with fail
    refine (assignCount_any _ _ _ _ _ t4).mono ?_
    rintro e w5 ⟨rfl, rfl⟩
    go_wp2_with fail
    refine (toBoolSS_any _ _ _ _ _ (h.grown g4') n1 hl).mono ?_
    rintro e w6 ⟨a6, c6, rfl, t6, g6⟩
    have g6' := grown_trans g4' g6
    have t4' := t4.grown g6
    clear g4' g6 t4
    go_wp2_with fail
    refine (eqBoolSS_same _ _ _ _ _ _ _ t4' t6).mono ?_
    rintro e w7 ⟨rfl, d, rfl⟩
    go_wp2_with fail
    go_ret
    exact ⟨rfl, gDrewN g6' d⟩
set_option maxHeartbeats 1000000 in
theorem fnExactAssignValid_walk (ao : Option Addr) (n cap : Nat) (rows : List (List Bool)) (w : World) (h : GridAt w ao n cap rows) :
    Calls Try.prog 3 #[.slice ao n cap] w fun e w' => e = .returned (.bool true) ∧ w.grownBy w' none := by
  go_enter Try.func3, Try.ntmps3
  go_wp2_with fail
  refine (szBoolSS_any _ _ _ _ _ h).mono ?_
  rintro e w1 ⟨r, rfl, rfl, rfl | ⟨r0, r1, n1, hl⟩⟩
  · go_wp2
    go_ret
    exact ⟨rfl, grown_refl _ _⟩
  · have r0' : ¬ r < 0 := by omega
    go_wp2_with fail
    refine (toBoolSS_any _ _ _ _ _ h n1 hl).mono ?_
    rintro e w2 ⟨a2, c2, rfl, t2, g2⟩
    go_wp2_with fail
    refine (assignValidS_any _ _ _ _ _ t2).mono ?_
    rintro e w3 ⟨rfl, rfl⟩
    clear t2
    obtain ⟨v, hv⟩ : ∃ v, pb (GridP rows) = v := ⟨_, rfl⟩
    rw [hv]
    go_wp2_with fail
    refine (toBoolSS_any _ _ _ _ _ (h.grown g2) n1 hl).mono ?_
    rintro e w4 ⟨a4, c4, rfl, t4, g4⟩
    have g4' := grown_trans g2 g4
    clear g2 g4
    go_wp2_with fail
    refine (assignValid_any _ _ _ _ _ t4).mono ?_
    rintro e w5 ⟨rfl, rfl⟩
    rw [hv]
    go_wp2_with fail
    refine (toBoolSS_any _ _ _ _ _ (h.grown g4') n1 hl).mono ?_
    rintro e w6 ⟨a6, c6, rfl, t6, g6⟩
    have g6' := grown_trans g4' g6
    have t4' := t4.grown g6
    clear g4' g6 t4
    go_wp2_with fail
    refine (eqBoolSS_same _ _ _ _ _ _ _ t4' t6).mono ?_
    rintro e w7 ⟨rfl, d, rfl⟩
    go_wp2_with fail
    go_ret
    exact ⟨rfl, gDrewN g6' d⟩
end Go.Proofs.Ytilgcfgbfhmdcaa
