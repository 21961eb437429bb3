/- The numbers behind tickets: 997 is a prime. -/
import Derived.Test.YtppkbmlbggokkaaDoorTickP
namespace Go.Proofs.YtppkbmlbggokkaaDoor
def sqN (b : Nat) : Nat := b * b % 997
/-- an inverse modulo 997: the power 995 = 512 + 256 + 128 + 64 + 32 + 2 + 1 -/
def invN (b : Nat) : Nat :=
  let b2 := sqN b
  let b32 := sqN (sqN (sqN (sqN b2)))
  let b64 := sqN b32
  let b128 := sqN b64
  let b256 := sqN b128
  let b512 := sqN b256
  ((((((b * b2 % 997) * b32 % 997) * b64 % 997) * b128 % 997) * b256 % 997) * b512) % 997
theorem invN_all : ∀ b, b < 997 → b = 0 ∨ b * invN b % 997 = 1 := by decide +kernel
theorem inv_ex {b : Int} (h : 1 ≤ b ∧ b ≤ 996) : ∃ c : Int, (b * c) % 997 = 1 := by
  obtain ⟨m, rfl⟩ := Int.eq_ofNat_of_zero_le (a := b) (by omega)
  rcases invN_all m (by omega) with e | e
  · omega
  · exact ⟨(invN m : Int), by have : ((m * invN m : Nat) : Int) % 997 = 1 := by omega
                              simpa using this⟩
/-- a factor that is an element may be struck -/
theorem strike {x y b : Int} (h : 1 ≤ b ∧ b ≤ 996) (e : (x * b) % 997 = (y * b) % 997) : x % 997 = y % 997 := by
  obtain ⟨c, hc⟩ := inv_ex h
  have h1 : (x * b * c) % 997 = (y * b * c) % 997 := by rw [Int.mul_emod (x * b) c, e, ← Int.mul_emod]
  have k : ∀ z : Int, (z * b * c) % 997 = z % 997 := fun z => by
    rw [Int.mul_assoc, Int.mul_emod, hc, Int.mul_one, Int.emod_emod_of_dvd _ (Int.dvd_refl 997)]
  rw [k, k] at h1
  exact h1
theorem prod_el {a b : Int} (h : elB a = true) (k : elB b = true) : elB (prodZ a b) = true := by
  rw [prodZ_el h k, elB_iff]
  have ha := elB_iff.1 h
  have hb := elB_iff.1 k
  have h0 : (a * b) % 997 ≠ 0 := fun e => by
    have := strike (x := a) (y := 0) hb (by rw [e]; simp)
    omega
  omega
theorem five_el : elB 5 = true := by decide
theorem succ_el {n : Int} (h : numB n = true) : elB (n + 1) = true := by
  have := numB_iff.1 h
  rw [elB_iff]; omega
theorem signed {s n : Int} (h : elB s = true) (k : numB n = true) : tkB (prodZ s 5) n (prodZ s (n + 1)) = true := by
  have h5 := prod_el h five_el
  have hn := prod_el h (succ_el k)
  rw [tkB_ok h5 k hn, prodZ_el hn five_el, prodZ_el h5 (succ_el k), prodZ_el h (succ_el k), prodZ_el h five_el]
  simp only [beq_iff_eq]
  rw [Int.mul_emod (s * (n + 1) % 997), Int.mul_emod (s * 5 % 997), Int.emod_emod_of_dvd _ (Int.dvd_refl 997), Int.emod_emod_of_dvd _ (Int.dvd_refl 997), ← Int.mul_emod, ← Int.mul_emod]
  rw [Int.mul_right_comm]
/-- a ticket is right for one key -/
theorem one_key {p q n g : Int} (h : tkB p n g = true) (k : tkB q n g = true) : p = q := by
  simp only [tkB, Bool.and_eq_true, beq_iff_eq] at h k
  obtain ⟨⟨⟨hp, hn⟩, _⟩, e1⟩ := h
  obtain ⟨⟨⟨hq, _⟩, _⟩, e2⟩ := k
  rw [e1, prodZ_el hp (succ_el hn), prodZ_el hq (succ_el hn)] at e2
  have hp' := elB_iff.1 hp
  have hq' := elB_iff.1 hq
  have := strike (elB_iff.1 (succ_el hn)) e2
  omega
/-- a signature is for one serial number -/
theorem one_serial {p n m g : Int} (h : tkB p n g = true) (k : tkB p m g = true) : n = m := by
  simp only [tkB, Bool.and_eq_true, beq_iff_eq] at h k
  obtain ⟨⟨⟨hp, hn⟩, _⟩, e1⟩ := h
  obtain ⟨⟨⟨_, hm⟩, _⟩, e2⟩ := k
  rw [e1, prodZ_el hp (succ_el hn), prodZ_el hp (succ_el hm), Int.mul_comm p, Int.mul_comm p] at e2
  have hn' := numB_iff.1 hn
  have hm' := numB_iff.1 hm
  have := strike (elB_iff.1 hp) e2
  omega
/-- a serial number has one signature -/
theorem one_sign {p n g k : Int} (h : tkB p n g = true) (h' : tkB p n k = true) : g = k := by
  simp only [tkB, Bool.and_eq_true, beq_iff_eq] at h h'
  obtain ⟨⟨⟨_, _⟩, hg⟩, e1⟩ := h
  obtain ⟨⟨⟨_, _⟩, hk⟩, e2⟩ := h'
  rw [← e2, prodZ_el hg five_el, prodZ_el hk five_el] at e1
  have hg' := elB_iff.1 hg
  have hk' := elB_iff.1 hk
  have := strike (b := 5) (by omega) e1
  omega
theorem another_ne {n b : Int} : (n + 1 + b % 990) % 991 ≠ n := by omega
end Go.Proofs.YtppkbmlbggokkaaDoor
