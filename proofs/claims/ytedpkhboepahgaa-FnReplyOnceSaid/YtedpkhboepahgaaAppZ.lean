/- append(own, make([]int, k)...). -/
import Derived.Test.YtedpkhboepahgaaInts
import Derived.WalkKit
import Derived.Lib.Hide
import Derived.Deep.QuietTactic
import Derived.BigQuiet
import Derived.Lib.AppendZeros
namespace Go.Proofs.Ytedpkhboepahgaa
open Go.RowKit
theorem zero_list (k : Nat) : (Builtin.zeroCells (Value.int .i64 0).cells k).toList = List.replicate k (Value.int .i64 0) := by
  refine List.ext_getElem (by simp [Builtin.zeroCells, Value.cells]) fun i h1 h2 => ?_
  simp [Builtin.zeroCells, Value.cells, Nat.mod_one]
theorem zero_arr (k : Nat) : Builtin.zeroCells (Value.int .i64 0).cells k = (List.replicate k (Value.int .i64 0)).toArray := by
  apply Array.ext'
  rw [zero_list]
theorem und_int : Try.prog.underlying 3 = some (.int .i64) := Try.underlying3
theorem run_zeros_room (w : World) (ty : TypeId) (g n cap k : Nat) (cur : Array Value) (hg : w.heap[g]? = some (.cells cur 3 (0, 0))) (hk : k ≤ 1000) (hk0 : 0 < k) (hroom : n + k ≤ cap) (hfit : n + k ≤ cur.size) :
    (Builtin.append_ #[23, 3] ty #[.slice (some ⟨g, 0, none⟩) n cap, .int .i64 k]).run Try.prog w =
      .ok (.slice (some ⟨g, 0, none⟩) (n + k) cap) (w.setRow g (cur.toList.take n ++ List.replicate k (Value.int .i64 0) ++ cur.toList.drop (n + k)).toArray) := by
  obtain ⟨i, hi1, hi2, hi3, hi4⟩ := info_parts info_int
  have hst := run_storeCells_at Try.prog g n 3 (List.replicate k (Value.int .i64 0)) 0 cur w hg (by simpa using hfit) (fun u hu => by rw [List.eq_of_mem_replicate hu]; rfl)
  simp only [Nat.add_zero, List.length_replicate] at hst
  have hw : IntKind.i64.wrap (k : Int) = k := by rw [IntKind.wrap_i64]; omega
  have hneg : ¬ ((k : Int) < 0) := by omega
  have h48 : ¬ (281474976710656 < (k : Int) * 8) := by omega
  have hk1 : ¬ k = 0 := by omega
  simp [Builtin.append_, run_underlying Try.underlying23, run_underlying und_int, sizeOf, typeInfo, zeroValue, hi1, hi2, hi3, hi4, asInt, asIntOf, hw, hneg, h48, hk1, hroom, zero_list, Addr.add_lit, hst]
theorem run_zeros_grow (w : World) (ty : TypeId) (g n cap k : Nat) (cs : List Value) (hlo : cs.length = n) (holds : ∀ j v, cs[j]? = some v → w.cell? ((⟨g, 0, none⟩ : Addr).add j) = some v) (hk : k ≤ 1000) (hk0 : 0 < k) (hg : cap < n + k) (hn : n ≤ 2000000000) :
    (Builtin.append_ #[23, 3] ty #[.slice (some ⟨g, 0, none⟩) n cap, .int .i64 k]).run Try.prog w =
      .ok (.slice (some ⟨w.heap.size, 0, none⟩) (n + k) (grownCap w (n + k) cap 3))
        (w.drew.alloc (.cells (cs.toArray ++ (List.replicate k (Value.int .i64 0)).toArray ++ Builtin.zeroCells (Value.int .i64 0).cells (grownCap w (n + k) cap 3 - (n + k))) 3)) := by
  obtain ⟨i, hi1, hi2, hi3, hi4⟩ := info_parts info_int
  have hw : IntKind.i64.wrap (k : Int) = k := by rw [IntKind.wrap_i64]; omega
  have hneg : ¬ ((k : Int) < 0) := by omega
  have h48 : ¬ (281474976710656 < (k : Int) * 8) := by omega
  have hk1 : ¬ k = 0 := by omega
  have hno : ¬ (n + k ≤ cap) := by omega
  have h63' : ¬ (9223372036854775807 < ((n : Int) + (k : Int))) := by omega
  have hns := growslice_fits (need := n + k) (old := cap) (bytes := 8) (by omega) (by omega)
  have h48' : ¬ (281474976710656 < Builtin.nextslicecap (n + k) cap * 8) := by omega
  have hfo := run_firstCells_some (P := Try.prog) w.drew 1 n ⟨g, 0, none⟩ n cap cs (by simpa using hlo) (by simpa using holds)
  simp [Builtin.append_, run_underlying Try.underlying23, run_underlying und_int, sizeOf, typeInfo, zeroValue, hi1, hi2, hi3, hi4, asInt, asIntOf, hw, hneg, h48, hk1, hno, h63', h48', Question.forced, hfo, newRow, grownCap, zero_arr]
theorem run_zeros (w : World) (ty : TypeId) (B k : Nat) (v : Value) (xs : List Int) (hown : OwnI B w v xs) (hk : k ≤ 1000) (hk0 : 0 < k) (hB : B ≤ w.heap.size) (hlen : xs.length ≤ 1000000000) :
    ∃ v' w', (Builtin.append_ #[23, 3] ty #[v, .int .i64 k]).run Try.prog w = .ok v' w' ∧ OwnI B w' v' (xs ++ List.replicate k 0) ∧ w.grownBy w' v.ownBlock := by
  obtain ⟨i, hi1, hi2, hi3, hi4⟩ := info_parts info_int
  have hL : ((xs ++ List.replicate k (0 : Int)).map (Value.int .i64)) = xs.map (Value.int .i64) ++ List.replicate k (Value.int .i64 0) := by simp
  have hlen2 : ((xs ++ List.replicate k (0 : Int)).map (Value.int .i64)).length = xs.length + k := by simp
  have grown : ∀ old, ∀ row : Option Nat, OwnI B (w.drew.alloc (.cells ((xs.map (Value.int .i64)).toArray ++ (List.replicate k (Value.int .i64 0)).toArray ++ Builtin.zeroCells (Value.int .i64 0).cells (grownCap w (xs.length + k) old 3 - (xs.length + k))) 3)) (.slice (some ⟨w.heap.size, 0, none⟩) (xs.length + k) (grownCap w (xs.length + k) old 3)) (xs ++ List.replicate k 0) ∧ w.grownBy (w.drew.alloc (.cells ((xs.map (Value.int .i64)).toArray ++ (List.replicate k (Value.int .i64 0)).toArray ++ Builtin.zeroCells (Value.int .i64 0).cells (grownCap w (xs.length + k) old 3 - (xs.length + k))) 3)) row := by
    intro old row
    have hge := grownCap_ge w (xs.length + k) old 3
    have hcm : grownCap w (xs.length + k) old 3 ≤ maxLen := grownCap_le_maxLen w (xs.length + k) old 3 (by unfold maxLen; omega)
    refine ⟨⟨by rw [Nat.mul_one], .inr ⟨w.heap.size, _, _, by rw [hlen2], hB, heap_alloc_new w.drew _, by rw [hlen2]; exact hge, hcm, ?_, ?_⟩⟩, gAlloc (gDrew (grown_refl _ _)) _⟩
    · simp only [Array.size_append, List.size_toArray, size_zeroCells, List.length_map, List.length_replicate, Value.cells, Nat.mul_one]
      show xs.length + k + (_ - _) * 1 = _
      omega
    · rw [hlen2]
      simp only [Array.toList_append]
      rw [hL, Nat.mul_one]
      exact List.take_left' (by simp)
  rcases hown.2 with ⟨rfl, hn⟩ | ⟨g, cap, cur, rfl, hbg, hg, hnc, hcm, hcs, htake⟩
  · have hx : xs = [] := by
      have := hown.1
      simpa using hn
    subst hx
    have hr := Lib.run_append_nil_zeros (P := Try.prog) w 23 3 ty 3 i (.int .i64 0) .i64 .i64 Try.underlying23 und_int hi1 hi2 k hk0 (by omega) (by omega) (by rw [hi4]; omega)
    have hgr := grown 0 (Value.ownBlock (.slice none 0 0))
    refine ⟨_, _, hr, ?_, ?_⟩
    · have := hgr.1
      simpa [zero_arr] using this
    · have := hgr.2
      simpa [zero_arr] using this
  · simp only [List.length_map] at hnc htake ⊢
    rw [Nat.mul_one] at hcs htake
    by_cases hroom : xs.length + k ≤ cap
    · have hr := run_zeros_room w ty g xs.length cap k cur hg hk hk0 hroom (by omega)
      refine ⟨_, _, hr, ⟨by rw [Nat.mul_one], .inr ⟨g, cap, _, by rw [hlen2], hbg, setRow_heap w g cur _ 3 _ hg, by rw [hlen2]; exact hroom, hcm, ?_, ?_⟩⟩, ⟨rfl, rfl, rfl, by simp, fun k' _ hk' => setRow_other w g k' _ (fun e => hk' (by simp [Value.ownBlock, e]))⟩⟩
      · simp only [List.size_toArray, List.length_append, List.length_take, List.length_drop, Array.length_toList, List.length_replicate]
        omega
      · rw [hlen2, hL, htake, Nat.mul_one]
        exact List.take_left' (by simp)
    · have holds : ∀ j u, (xs.map (Value.int .i64))[j]? = some u → w.cell? ((⟨g, 0, none⟩ : Addr).add j) = some u := World.ownsRow.cells hown (g := g) rfl
      have hr := run_zeros_grow w ty g xs.length cap k (xs.map (Value.int .i64)) (by simp) holds hk hk0 (by omega) (by omega)
      exact ⟨_, _, hr, (grown cap none).1, (grown cap _).2⟩
theorem app_zeros {ops : Array Oper} {rest : List Oper} {o : Oper} {a : Act} {Q : Exit → Act → World → Prop} {w : World} (hgd : o.guard = none) (s x : Operand) (k : Nat)
    (ho : o.op = .call { callee := .builtin .append, args := #[s, x], argTypes := #[23, 3] })
    {B : Nat} {v : Value} {xs : List Int} (hown : OwnI B w v xs) (hs : a.eval s = v) (hx : a.eval x = .int .i64 k) (hk : k ≤ 1000) (hk0 : 0 < k) (hB : B ≤ w.heap.size) (hlen : xs.length ≤ 1000000000)
    (h : ∀ v' w', OwnI B w' v' (xs ++ List.replicate k 0) → w.grownBy w' v.ownBlock → wpList Try.prog ops Q rest (a.put o.dst v') w') : wpList Try.prog ops Q (o :: rest) a w := by
  obtain ⟨v', w', hr, h2, h3⟩ := run_zeros w o.type B k v xs hown hk hk0 hB hlen
  exact Lib.wpList_append_run w hgd s x 23 3 ho v (.int .i64 k) hs hx v' w' hr (h v' w' h2 h3)
end Go.Proofs.Ytedpkhboepahgaa
