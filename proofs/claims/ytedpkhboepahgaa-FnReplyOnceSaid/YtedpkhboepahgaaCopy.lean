/- copy into a slice of the call's own. -/
import Derived.Test.YtedpkhboepahgaaInts
import Derived.WalkKit
import Derived.Lib.Hide
import Derived.Deep.QuietTactic
import Derived.BigQuiet
import Derived.Laws.CopyOwn
namespace Go.Proofs.Ytedpkhboepahgaa
open Go.RowKit
theorem size_int : (Try.prog.info? 3).map (·.size) = some 1 := by kernel_rfl
theorem grown_setRow (w : World) (g : Nat) (cs : Array Value) : w.grownBy (w.setRow g cs) (some g) := by
  exact ⟨rfl, rfl, rfl, by simp [World.setRow], fun k hk hne => setRow_other w g k cs (fun e => hne (by rw [e]))⟩
theorem copy_ints {ops : Array Oper} {rest : List Oper} {o : Oper} {a : Act} {Q : Exit → Act → World → Prop} {w : World} (hgd : o.guard = none) (d s : Operand)
    (ho : o.op = .call { callee := .builtin .copy, args := #[d, s], argTypes := #[23, 23] })
    {B g n c off dc : Nat} {xs ys : List Int} (hown : OwnI B w (.slice (some ⟨g, 0, none⟩) n c) xs) {ao : Option Addr} {m cap : Nat} (hsrc : IntsAt w ao m cap ys)
    (hd : a.eval d = .slice (some ⟨g, off, none⟩) (n - off) dc) (hs : a.eval s = .slice ao m cap) (hfit : off + m ≤ n)
    (h : ∀ w', OwnI B w' (.slice (some ⟨g, 0, none⟩) n c) (xs.take off ++ (ys ++ xs.drop (off + m))) → w.grownBy w' (some g) → wpList Try.prog ops Q rest (a.put o.dst (goInt m)) w') : wpList Try.prog ops Q (o :: rest) a w := by
  have hxl : xs.length = n := by
    have := OwnI.ints hown
    omega
  have hm := hsrc.len
  have hmc := RowAt.le hsrc
  by_cases h0 : m = 0
  · subst h0
    have : ys = [] := List.eq_nil_of_length_eq_zero hm
    subst this
    refine wpList_copy_nothing hgd d s 23 23 ho 3 Try.underlying23 size_int _ _ _ _ _ _ hd hs (by simp) ?_
    refine h w ?_ (grown_refl _ _)
    simpa using hown
  · obtain ⟨b, soff, rfl, hb, hc⟩ := RowAt.addr hsrc (by omega)
    rcases hown.2 with ⟨hx, _⟩ | ⟨g', cap', cur, hv, hBg, hheap, hnc, hcm, hcs, htake⟩
    · cases hx
    · simp only [Value.slice.injEq, Option.some.injEq, Addr.mk.injEq, and_true] at hv
      obtain ⟨rfl, _, rfl⟩ := hv
      simp only [List.length_map, Nat.mul_one] at htake hnc hcs
      rw [hxl] at htake hnc
      have hcl : cur.toList.length = c := by rw [Array.length_toList, hcs]
      have hlen : (ys.map (Value.int .i64)).length = Nat.min m (n - off) := by rw [List.length_map, hm]; exact (Nat.min_eq_left (by omega)).symm
      have hlen2 : (ys.map (Value.int .i64)).length = m := by simp [hm]
      refine wpList_copy_own hgd d s 23 23 ho 3 Try.underlying23 size_int g off (n - off) dc ⟨b, soff, none⟩ m cap hd hs cur 3 hheap (ys.map (Value.int .i64)) hlen (fun j v hv => ?_) (by rw [hlen2, hcs]; omega) (fun v hv => ?_) ?_
      · have := hc j v hv
        simpa [Addr.add_lit] using this
      · simp only [List.mem_map] at hv
        obtain ⟨z, _, rfl⟩ := hv
        rfl
      · rw [hlen2]
        refine h _ ?_ (grown_setRow _ _ _)
        have hmap : (xs.take off ++ (ys ++ xs.drop (off + m))).map (Value.int .i64) = (cur.toList.take off ++ (ys.map (Value.int .i64) ++ cur.toList.drop (off + m))).take n := by
          have e1 : (xs.take off).map (Value.int .i64) = cur.toList.take off := by
            rw [List.map_take, ← htake, List.take_take, Nat.min_eq_left (by omega)]
          have e2 : (xs.drop (off + m)).map (Value.int .i64) = (cur.toList.drop (off + m)).take (n - (off + m)) := by
            rw [List.map_drop, ← htake, List.drop_take]
          rw [List.map_append, List.map_append, e1, e2]
          rw [List.take_append, List.take_append, List.take_of_length_le (l := cur.toList.take off) (by simp; omega), List.take_of_length_le (l := ys.map (Value.int .i64)) (by simp; omega)]
          congr 3
          simp; omega
        have hlen3 : (xs.take off ++ (ys ++ xs.drop (off + m))).length = n := by simp; omega
        refine ⟨by simp, .inr ⟨g, c, (cur.toList.take off ++ (ys.map (Value.int .i64) ++ cur.toList.drop (off + m))).toArray, ?_, hBg, ?_, ?_, hcm, ?_, ?_⟩⟩
        · rw [List.length_map, hlen3]
        · exact setRow_heap w g cur _ _ _ hheap
        · rw [List.length_map, hlen3]; omega
        · simp; omega
        · rw [List.length_map, hlen3, Nat.mul_one, hmap]
end Go.Proofs.Ytedpkhboepahgaa
