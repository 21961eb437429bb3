/- The reader of a code: l6Open, pick. -/
import Derived.Test.YtedpkhboepahgaaCore
import Derived.Test.YtedpkhboepahgaaHeap
import Derived.WalkKit
import Derived.Lib.Hide
import Derived.Deep.QuietTactic
import Derived.BigQuiet
namespace Go.Proofs.Ytedpkhboepahgaa
open Go.RowKit
/-- n bytes lie at an address, in a block below B -/
def BytesAt (w : World) (ao : Option Addr) (n B : Nat) : Prop :=
  n = 0 ∨ ∃ b off, ao = some ⟨b, off, none⟩ ∧ b < B ∧ ∀ i, i < n → ∃ z : Int, 0 ≤ z ∧ z ≤ 255 ∧ w.cell? ⟨b, off + i, none⟩ = some (.int .u8 z)
/-- block rb is a reader that has been asked at most c times -/
def Rdr (w : World) (rb : Nat) (c : Nat) : Prop :=
  ∃ ao n cap, ∃ p : Nat, p ≤ c ∧ n ≤ 2000 ∧ w.heap[rb]? = some (.cells #[.slice ao n cap, .int .i64 p] 85 (0, 0)) ∧ BytesAt w ao n rb
theorem BytesAt.grown {w w' : World} {row : Option Nat} {ao : Option Addr} {n B : Nat} (h : BytesAt w ao n B) (hg : w.grownBy w' row) (hr : ∀ b, b < B → some b ≠ row) : BytesAt w' ao n B := by
  rcases h with h | ⟨b, off, rfl, hb, h⟩
  · exact .inl h
  · refine .inr ⟨b, off, rfl, hb, fun i hi => ?_⟩
    obtain ⟨z, h0, h1, h2⟩ := h i hi
    exact ⟨z, h0, h1, hg.cell h2 (hr b hb)⟩
theorem BytesAt.up {w : World} {ao : Option Addr} {n B B' : Nat} (h : BytesAt w ao n B) (hB : B ≤ B') : BytesAt w ao n B' := by
  rcases h with h | ⟨b, off, e, hb, h⟩
  · exact .inl h
  · exact .inr ⟨b, off, e, by omega, h⟩
theorem Rdr.grown {w w' : World} {rb c : Nat} (h : Rdr w rb c) (hg : w.grownBy w' none) : Rdr w' rb c := by
  obtain ⟨ao, n, cap, p, h1, h2, h3, h4⟩ := h
  exact ⟨ao, n, cap, p, h1, h2, (hg.block rb (Array.getElem?_eq_some_iff.1 h3).1 (by simp)).trans h3, h4.grown hg (by simp)⟩
theorem Rdr.row {w w' : World} {rb c : Nat} {row : Option Nat} (h : Rdr w rb c) (hg : w.grownBy w' row) (hr : ∀ b, b ≤ rb → some b ≠ row) : Rdr w' rb c := by
  obtain ⟨ao, n, cap, p, h1, h2, h3, h4⟩ := h
  exact ⟨ao, n, cap, p, h1, h2, (hg.block rb (Array.getElem?_eq_some_iff.1 h3).1 (hr rb (Nat.le_refl _))).trans h3, h4.grown hg (fun b hb => hr b (by omega))⟩
theorem Rdr.drew {w : World} {rb c : Nat} (h : Rdr w rb c) : Rdr w.drew rb c := h.grown (gDrew (grown_refl _ _))
theorem Rdr.drewN {w : World} {rb c : Nat} (h : Rdr w rb c) (n : Nat) : Rdr (w.drewN n) rb c := h.grown (grown_drewN _ _ _)
theorem Rdr.al {w : World} {rb c : Nat} (h : Rdr w rb c) (o : Obj) : Rdr (w.alloc o) rb c := h.grown (grown_alloc _ _ _)
theorem Rdr.set {w : World} {rb c : Nat} (h : Rdr w rb c) {p : Addr} (hp : rb < p.block) (v : Value) : Rdr (w.setCell p v) rb c :=
  h.row (row := some p.block) ⟨rfl, rfl, rfl, by simp [World.setCell], fun k _ hne => Below.heap_setCell _ _ _ _ (fun e => hne (by rw [e]))⟩ (fun b hb => by simp; omega)
theorem Rdr.mono {w : World} {rb c c' : Nat} (h : Rdr w rb c) (hc : c ≤ c') : Rdr w rb c' := by
  obtain ⟨ao, n, cap, p, h1, r⟩ := h
  exact ⟨ao, n, cap, p, by omega, r⟩
/-- what pick leaves -/
def PickPost (rb : Nat) (n : Int) (c : Nat) (w : World) (e : Ending) (w' : World) : Prop :=
  ∃ v : Nat, e = .returned (.int .i64 v) ∧ (v : Int) < n ∧ w.grownBy w' (some rb) ∧ Rdr w' rb (c + 1)
theorem rdr_set {w : World} {rb c p n cap : Nat} {ao : Option Addr} (hp : p ≤ c) (hn : n ≤ 2000) (hb : w.heap[rb]? = some (.cells #[.slice ao n cap, .int .i64 p] 85 (0, 0)))
    (h : BytesAt w ao n rb) (m : Nat) : Rdr ((w.setCell ⟨rb, 1, none⟩ (.int .i64 ((p : Int) + 1))).drewN m) rb (c + 1) := by
  refine ⟨ao, n, cap, p + 1, by omega, hn, ?_, ?_⟩
  · exact (heap_setCell_at hb _).trans (by simp)
  · refine h.grown (w' := (w.setCell ⟨rb, 1, none⟩ (.int .i64 ((p : Int) + 1))).drewN m) (row := some rb) (grown_trans (grown_set _ _ _ _) (grown_drewN _ _ _)) (fun b e => ?_)
    simp; omega
set_option maxHeartbeats 1000000 in
theorem pick_any (rb : Nat) (n : Int) (c : Nat) (w : World) (hr : Rdr w rb c) (h1 : 1 ≤ n) (h2 : n ≤ 1000000) (hc : c ≤ 1000000) :
    Calls Try.prog 45 #[.pointer (some ⟨rb, 0, none⟩), .int .i64 n] w (PickPost rb n c w) := by
  obtain ⟨ao, l, cap, p, hp, hl, hb, hby⟩ := hr
  have c0 : w.cell? ⟨rb, 0, none⟩ = some (.slice ao l cap) := by simp [World.cell?, hb]
  have c1 : w.cell? ⟨rb, 1, none⟩ = some (.int .i64 p) := by simp [World.cell?, hb]
  have f1 : w.frozen? ⟨rb, 1, none⟩ = false := by simp [World.frozen?, hb]
  have fin : ∀ v m, 0 ≤ v → v < n → PickPost rb n c w (.returned (.int .i64 v)) ((w.setCell ⟨rb, 1, none⟩ (.int .i64 ((p : Int) + 1))).drewN m) := fun v m a b => by
    obtain ⟨v, rfl⟩ := Int.eq_ofNat_of_zero_le a
    exact ⟨v, rfl, b, grown_trans (grown_set _ _ _ _) (grown_drewN _ _ _), rdr_set hp hl hb hby m⟩
  have HF := Lib.hid fin
  clear fin
  rcases hby with hl0 | ⟨b, off, hao, hab, hz⟩
  · subst hl0
    go_enter Try.func45, Try.ntmps45
    go_wp2
    go_ret
    exact HF.out 0 0 (by omega) (by omega)
  · subst hao
    have hpb : p ≤ 1000000 := by omega
    clear hp hc
    have hne : b ≠ rb := by omega
    by_cases hl1 : l = 0
    · subst hl1
      go_enter Try.func45, Try.ntmps45
      go_wp2
      go_ret
      exact HF.out 0 0 (by omega) (by omega)
    · have hl2 : ((l : Int) == 0) = false := by simp; omega
      by_cases hk : p < l
      · obtain ⟨z, z0, z1, cz⟩ := hz p hk
        clear hz
        have hm1 : 0 ≤ z % n := Int.emod_nonneg _ (by omega)
        have hm2 : z % n < n := Int.emod_lt_of_pos _ (by omega)
        go_enter Try.func45, Try.ntmps45
        go_wp2
        go_ret
        exact HF.out _ 0 hm1 hm2
      · have q1 : p % l < l := Nat.mod_lt _ (by omega)
        have q2 : (p * 7 + 3) % l < l := Nat.mod_lt _ (by omega)
        obtain ⟨z, z0, z1, cz⟩ := hz _ q1
        obtain ⟨y, y0, y1, cy⟩ := hz _ q2
        clear hz
        have hlp : (0 : Int) < (l : Int) := by omega
        have r1 : (0 : Int) ≤ (p : Int) % l := by omega
        have r2 : (p : Int) % l < l := by omega
        have r3 : (0 : Int) ≤ ((p : Int) * 7 + 3) % l := Int.emod_nonneg _ (by omega)
        have r4 : ((p : Int) * 7 + 3) % l < l := Int.emod_lt_of_pos _ hlp
        have d0 : (0 : Int) ≤ (p : Int) / l := Int.ediv_nonneg (by omega) (by omega)
        have d1 : (p : Int) / l ≤ p := Int.ediv_le_self _ (by omega)
        go_enter Try.func45, Try.ntmps45
        go_wp2
        go_quiet (fail)
        go_wp2
        go_ret
        have hx := xor_nonneg (a := z * 131 + y * 1117 + (p : Int) * 29 + (p : Int) / l * 53) (b := (z * 131 + y * 1117 + (p : Int) * 29 + (p : Int) / l * 53) / 64) (by omega) (by omega) (by omega) (by omega)
        have ht := tmod_range hx h1
        exact HF.out _ _ ht.1 ht.2
end Go.Proofs.Ytedpkhboepahgaa
