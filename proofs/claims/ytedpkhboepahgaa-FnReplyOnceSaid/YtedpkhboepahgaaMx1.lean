/- Mixes that hold one packet. -/
import Derived.Test.YtedpkhboepahgaaMx
import Derived.WalkKit
import Derived.Lib.Hide
import Derived.Deep.QuietTactic
import Derived.BigQuiet
import Derived.OwnWalk
import Derived.Deep.AppendLies
import Derived.Deep.RegionHeld3
namespace Go.Proofs.Ytedpkhboepahgaa
open Go.RowKit
/-- the six cells of a packet that waits -/
abbrev peC (p0 p1 e : Int) (ha : Option Addr) (hc : Nat) (t : Int) (ba : Option Addr) (bc : Nat) : List Value := [.int .i64 p0, .int .i64 p1, .int .i64 e, .slice ha 9 hc, .int .i64 t, .slice ba 6 bc]
theorem peC_one (p0 p1 e : Int) (ha : Option Addr) (hc : Nat) (t : Int) (ba : Option Addr) (bc : Nat) : ∀ u ∈ peC p0 p1 e ha hc t ba bc, u.oneCell' = true := by
  intro u hu
  simp only [List.mem_cons, List.not_mem_nil, or_false] at hu
  rcases hu with rfl | rfl | rfl | rfl | rfl | rfl <;> rfl
theorem peC_news {w : World} {b : Nat} {p0 p1 e : Int} {ha : Option Addr} {hc : Nat} {t : Int} {ba : Option Addr} {bc : Nat} {ty : TypeId} {fr : Nat × Nat} (h : w.heap[b]? = some (.cells (peC p0 p1 e ha hc t ba bc).toArray ty fr)) :
    ∀ j u, (peC p0 p1 e ha hc t ba bc)[j]? = some u → w.cell? ((⟨b, 0, none⟩ : Addr).add j) = some u := by
  intro j u hu
  rw [Addr.add_lit, Nat.zero_add]
  exact blkC h j (by simpa using hu)
theorem app_peel {ops : Array Oper} {rest : List Oper} {o : Oper} {a : Act} {Q : Exit → Act → World → Prop} {w : World} (hgd : o.guard = none) (s x : Operand)
    (ho : o.op = .call { callee := .builtin .append, args := #[s, x], argTypes := #[45, 45] })
    {B n : Nat} {v : Value} {cs : List Value} (hown : w.ownsRow B 39 6 v n cs) {b : Nat} {p0 p1 e : Int} {ha : Option Addr} {hc : Nat} {t : Int} {ba : Option Addr} {bc : Nat} (hs : a.eval s = v) (hx : a.eval x = .slice (some ⟨b, 0, none⟩) 1 1)
    (hr : w.heap[b]? = some (.cells (peC p0 p1 e ha hc t ba bc).toArray 39)) (hB : B ≤ w.heap.size) (hlen : n ≤ 1000)
    (h : ∀ v' w', w'.ownsRow B 39 6 v' (n + 1) (cs ++ peC p0 p1 e ha hc t ba bc) → w.grownBy w' v.ownBlock → wpList Try.prog ops Q rest (a.put o.dst v') w') : wpList Try.prog ops Q (o :: rest) a w := by
  obtain ⟨i, hi1, hi2, hi3, hi4⟩ := info_parts info_peel
  exact wpList_append_own_at w hgd s x 45 ho B 39 i _ 6 80 Try.underlying45 hi1 hi2 hi3 hi4 rfl (by decide) v _ _ hs hown ⟨b, 0, none⟩ 1 1 (peC p0 p1 e ha hc t ba bc) hx rfl (peC_news hr) (peC_one _ _ _ _ _ _ _ _) (by simp only [maxLen]; omega) (by omega) hB (fun v' w' h2 h3 _ _ => h v' w' h2 h3)
theorem step_peel {ops : Array Oper} {o : Oper} {a : Act} {K : Act → World → Prop} {Q : Exit → Act → World → Prop} {E : Prop} {w : World} (hgd : o.guard = none) (s x : Operand)
    (ho : o.op = .call { callee := .builtin .append, args := #[s, x], argTypes := #[45, 45] })
    {B n : Nat} {v : Value} {cs : List Value} (hown : w.ownsRow B 39 6 v n cs) {b : Nat} {p0 p1 e : Int} {ha : Option Addr} {hc : Nat} {t : Int} {ba : Option Addr} {bc : Nat} (hs : a.eval s = v) (hx : a.eval x = .slice (some ⟨b, 0, none⟩) 1 1)
    (hr : w.heap[b]? = some (.cells (peC p0 p1 e ha hc t ba bc).toArray 39)) (hB : B ≤ w.heap.size) (hlen : n ≤ 1000)
    (h : ∀ v' w', w'.ownsRow B 39 6 v' (n + 1) (cs ++ peC p0 p1 e ha hc t ba bc) → w.grownBy w' v.ownBlock → K (a.put o.dst v') w') :
    if Region.wanted o (yielded ops a.tmps) = true then Oper.wp Try.prog o a w K Q else E := by
  have hw : Region.wanted o (yielded ops a.tmps) = true := by simp [Region.wanted, hgd]
  rw [if_pos hw]
  obtain ⟨i, hi1, hi2, hi3, hi4⟩ := info_parts info_peel
  obtain ⟨v', w', hrun, h2, h3, _, _⟩ := run_append_own_at (P := Try.prog) w B 45 o.type 39 i _ 6 80 Try.underlying45 hi1 hi2 hi3 hi4 rfl (by decide) v n cs hown ⟨b, 0, none⟩ 1 1 (peC p0 p1 e ha hc t ba bc) rfl (peC_news hr) (peC_one _ _ _ _ _ _ _ _) (by simp only [maxLen]; omega) (by omega) hB
  unfold Oper.wp execOp
  simp only [ho, resolve, invoke, builtin, Sem.run_bind, Sem.run_pure, Result.andThen_ok, List.map_toArray, List.map_cons, List.map_nil, hs, hx, hrun]
  exact h v' w' h2 h3
/-- a pool of one, where a slice points -/
def PoolAt (w : World) (pb : Nat) (p0 p1 e : Int) (ha : Option Addr) (hc : Nat) (t : Int) (ba : Option Addr) (bc : Nat) : Prop :=
  w.cell? ⟨pb, 0, none⟩ = some (.int .i64 p0) ∧ w.cell? ⟨pb, 1, none⟩ = some (.int .i64 p1) ∧ w.cell? ⟨pb, 2, none⟩ = some (.int .i64 e) ∧ w.cell? ⟨pb, 3, none⟩ = some (.slice ha 9 hc) ∧ w.cell? ⟨pb, 4, none⟩ = some (.int .i64 t) ∧ w.cell? ⟨pb, 5, none⟩ = some (.slice ba 6 bc)
theorem PoolAt.grown {w w' : World} {pb : Nat} {p0 p1 e : Int} {ha : Option Addr} {hc : Nat} {t : Int} {ba : Option Addr} {bc : Nat} (h : PoolAt w pb p0 p1 e ha hc t ba bc) (g : w.grownBy w' none) : PoolAt w' pb p0 p1 e ha hc t ba bc :=
  ⟨g.cell h.1 (by simp), g.cell h.2.1 (by simp), g.cell h.2.2.1 (by simp), g.cell h.2.2.2.1 (by simp), g.cell h.2.2.2.2.1 (by simp), g.cell h.2.2.2.2.2 (by simp)⟩
set_option maxRecDepth 4000 in
set_option maxHeartbeats 2000000 in
theorem mixValid1 (s k p0 p1 e t : Int) (w : World) (sa : Option Addr) (sc pb pc : Nat) (ha : Option Addr) (hc : Nat) (ba : Option Addr) (bc : Nat) (H B : List Int) (hs : 1 ≤ s ∧ s ≤ 996) (hk : 1 ≤ k ∧ k ≤ 996) (hS : IntsAt w sa 1 sc [k]) (hP : PoolAt w pb p0 p1 e ha hc t ba bc)
    (h : IntsAt w ha 9 hc H) (h' : IntsAt w ba 6 bc B) (h0 : 0 ≤ p0 ∧ p0 ≤ 1) (h1 : 0 ≤ p1 ∧ p1 ≤ 7) (hV : vB e H t B = true) :
    Calls Try.prog 60 #[.agg #[.int .i64 s, .slice sa 1 sc, .slice (some ⟨pb, 0, none⟩) 1 pc]] w fun e w' => e = .returned (.bool true) ∧ w.grownBy w' none := by
  obtain ⟨sb, so, rfl, -, hcs⟩ := IntsAt.addr hS (by omega)
  have scm := RowAt.le hS
  have E := Lib.hid (elB_iff.2 hs)
  have EK := Lib.hid (elB_iff.2 hk)
  have G := Lib.hid (grown_alloc w (.cells #[.int .i64 s, .slice (some ⟨sb, so, none⟩) 1 sc, .slice (some ⟨pb, 0, none⟩) 1 pc] 47) none)
  have D := Lib.hid (heap_alloc_new w (.cells #[.int .i64 s, .slice (some ⟨sb, so, none⟩) 1 sc, .slice (some ⟨pb, 0, none⟩) 1 pc] 47))
  have d0 := blkC D.out 0 rfl
  have d1 := blkC D.out 1 rfl
  have d2 := blkC D.out 2 rfl
  have CS := Lib.hid (show w.cell? ⟨sb, so, none⟩ = some (.int .i64 k) from hcs 0 (by omega))
  have PO := Lib.hid hP
  have HH := Lib.hid h
  have HB := Lib.hid h'
  have V := Lib.hid hV
  have P0 := Lib.hid h0
  have P1 := Lib.hid h1
  clear hS hcs hP h h' hV h0 h1
  go_enter Try.func60, Try.ntmps60
  go_wp2_with (first | (go_at_call 51; refine (isElement_any _ _).mono ?_; rintro e w' ⟨rfl, rfl⟩; rw [E.out]))
  go_loopw [3, 4, 26] (fun u v q wr => (q = .int .i64 0 ∨ q = .int .i64 1) ∧ Hid ((w.alloc (.cells #[.int .i64 s, .slice (some ⟨sb, so, none⟩) 1 sc, .slice (some ⟨pb, 0, none⟩) 1 pc] 47)).grownBy wr none)) (fun _ _ q _ => 1 - (intOf q).toNat)
  case atStart => exact ⟨.inl rfl, Lib.hid (grown_refl _ _)⟩
  case round =>
    obtain ⟨hq, hg⟩ := hrel
    clear d0 d1 d2
    have d0 := blkC (blkK hg.out D.out (by simp)) 0 rfl
    have d1 := blkC (blkK hg.out D.out (by simp)) 1 rfl
    have d2 := blkC (blkK hg.out D.out (by simp)) 2 rfl
    rcases hq with rfl | rfl
    · have cs := (grown_trans G.out hg.out).cell CS.out (by simp)
      go_wp2_with (first | (go_at_call 51; refine (isElement_any _ _).mono ?_; rintro e w' ⟨rfl, rfl⟩; rw [EK.out]) | (go_at_call 62; refine (contains0 _ _ _ _).mono ?_; rintro e w' ⟨rfl, rfl⟩))
      go_roundw
      case rel => exact ⟨.inr rfl, hg⟩
      case measure => simp [intOf]
    · go_wp2
      go_loopw [6, 46] (fun u q wr => (q = .int .i64 0 ∨ q = .int .i64 1) ∧ Hid ((w.alloc (.cells #[.int .i64 s, .slice (some ⟨sb, so, none⟩) 1 sc, .slice (some ⟨pb, 0, none⟩) 1 pc] 47)).grownBy wr none)) (fun _ q _ => 1 - (intOf q).toNat)
      case atStart => exact ⟨.inl rfl, hg⟩
      case round =>
        obtain ⟨hq, hg5⟩ := hrel
        clear d0 d1 d2 hg
        rcases hq with rfl | rfl
        · have G5 := Lib.hid (grown_trans G.out hg5.out)
          have PA := PO.out.grown G5.out
          obtain ⟨c0, c1, c2, c3, c4, c5⟩ := PA
          have H5 := Lib.hid (HH.out.grown (gAlloc G5.out (.cells (peC p0 p1 e ha hc t ba bc).toArray 39)))
          have B5 := Lib.hid (HB.out.grown (gAlloc G5.out (.cells (peC p0 p1 e ha hc t ba bc).toArray 39)))
          go_wp2_with fail
          refine (peeledValid_any p0 p1 e t _ ha hc ba bc H B H5.out B5.out P0.out P1.out V.out).mono ?_
          rintro q w6 ⟨rfl, g6⟩
          have G6 := Lib.hid (grown_trans hg5.out (grown_trans (grown_alloc wr (.cells (peC p0 p1 e ha hc t ba bc).toArray 39) none) g6))
          clear g6 c0 c1 c2 c3 c4 c5
          go_wp2_with fail
          go_roundw
          case rel => exact ⟨.inr rfl, G6⟩
          case measure => simp [intOf]
        · go_wp2
          go_ret
          exact ⟨rfl, grown_trans G.out hg5.out⟩
end Go.Proofs.Ytedpkhboepahgaa
