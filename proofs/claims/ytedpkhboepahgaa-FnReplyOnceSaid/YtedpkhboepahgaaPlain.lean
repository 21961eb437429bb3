/- Plain words for the contracts: no program in sight. -/
import Derived.WalkKit
namespace Go.Proofs.Ytedpkhboepahgaa
/-- n lies between l and h -/
def inB (n l h : Int) : Bool := decide (l ≤ n) && decide (n ≤ h)
theorem inB_true {n l h : Int} (a : l ≤ n) (b : n ≤ h) : inB n l h = true := by simp [inB, a, b]
theorem inB_lo {n l h : Int} (a : n < l) : inB n l h = false := by simp [inB]; omega
theorem inB_hi {n l h : Int} (a : h < n) : inB n l h = false := by simp [inB]; omega
theorem inB_iff {n l h : Int} : inB n l h = true ↔ l ≤ n ∧ n ≤ h := by simp [inB]
theorem inB_false {n l h : Int} : inB n l h = false ↔ ¬ (l ≤ n ∧ n ≤ h) := by simp [inB]
/-- n is an element of the group -/
def elB (n : Int) : Bool := inB n 1 996
theorem elB_iff {n : Int} : elB n = true ↔ 1 ≤ n ∧ n ≤ 996 := inB_iff
def numB (n : Int) : Bool := inB n 0 990
theorem numB_iff {n : Int} : numB n = true ↔ 0 ≤ n ∧ n ≤ 990 := inB_iff
/-- the product in the group, 0 if an argument is none of it -/
def prodZ (a b : Int) : Int := if elB a = true ∧ elB b = true then a * b % 997 else 0
theorem prodZ_el {a b : Int} (h : elB a = true) (k : elB b = true) : prodZ a b = a * b % 997 := if_pos ⟨h, k⟩
theorem prodZ_no {a b : Int} (h : elB a = false ∨ elB b = false) : prodZ a b = 0 := if_neg (by rintro ⟨x, y⟩; rcases h with h | h <;> simp_all)
theorem mul_lo {a b : Int} (h : 1 ≤ a ∧ a ≤ 996) (k : 1 ≤ b ∧ b ≤ 996) : 1 ≤ a * b := by
  have := Int.mul_le_mul h.1 k.1 (by omega) (by omega); omega
theorem mul_hi {a b : Int} (h : 1 ≤ a ∧ a ≤ 996) (k : 1 ≤ b ∧ b ≤ 996) : a * b ≤ 992016 := by
  have := Int.mul_le_mul h.2 k.2 (by omega) (by omega); omega
theorem wrap_i64_small (n : Int) (h0 : 0 ≤ n) (h1 : n < 4611686018427387904) : IntKind.i64.wrap n = n := by
  simp only [IntKind.wrap, IntKind.bits, IntKind.signed]; simp; omega
theorem xor_i64 (a b : Nat) (ha : a < 4611686018427387904) (hb : b < 4611686018427387904) : bits .xor .i64 (a : Int) (b : Int) = ((a ^^^ b : Nat) : Int) := by
  have hx : a ^^^ b < 2 ^ 62 := Nat.xor_lt_two_pow (by omega) (by omega)
  have h1 : (BitVec.ofInt 64 (a : Int)).toNat = a := by
    rw [BitVec.ofInt_natCast, BitVec.toNat_ofNat]; exact Nat.mod_eq_of_lt (by omega)
  have h2 : (BitVec.ofInt 64 (b : Int)).toNat = b := by
    rw [BitVec.ofInt_natCast, BitVec.toNat_ofNat]; exact Nat.mod_eq_of_lt (by omega)
  show IntKind.i64.wrap ((BitVec.ofInt 64 (a : Int) ^^^ BitVec.ofInt 64 (b : Int)).toNat : Int) = _
  rw [BitVec.toNat_xor, h1, h2]
  exact wrap_i64_small _ (by omega) (by omega)
theorem xor_nonneg {a b : Int} (h0 : 0 ≤ a) (h1 : a < 1000000000000) (k0 : 0 ≤ b) (k1 : b < 1000000000000) : 0 ≤ bits .xor .i64 a b := by
  obtain ⟨m, rfl⟩ := Int.eq_ofNat_of_zero_le h0
  obtain ⟨n, rfl⟩ := Int.eq_ofNat_of_zero_le k0
  rw [xor_i64 m n (by omega) (by omega)]; omega
theorem tmod_range {a n : Int} (h0 : 0 ≤ a) (h1 : 1 ≤ n) : 0 ≤ a.tmod n ∧ a.tmod n < n :=
  ⟨Int.tmod_nonneg _ h0, Int.tmod_lt_of_pos _ (by omega)⟩
end Go.Proofs.Ytedpkhboepahgaa
