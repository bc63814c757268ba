/- Plain facts on Go's bit operations on int64 numbers that are not negative. No condition but the bounds that each names. -/
import Derived.Laws.BitsAllLaws
import Derived.Laws.BitsLemmas
import Derived.WalkKit
namespace Go.Proofs.YtejeppjmlgfiaaaGreat
open Go.RowKit

theorem ofInt_i64 (a : Nat) (ha : a < 9223372036854775808) : (BitVec.ofInt 64 (a : Int)).toNat = a := by
  rw [BitVec.ofInt_natCast, BitVec.toNat_ofNat]; exact Nat.mod_eq_of_lt (by omega)
theorem i64_and_nat (a b : Nat) (ha : a < 9223372036854775808) (hb : b < 9223372036854775808) : bits .and .i64 (a : Int) (b : Int) = ((a &&& b : Nat) : Int) := by
  have hx : a &&& b < 2 ^ 63 := Nat.and_lt_two_pow _ (by omega)
  show IntKind.i64.wrap ((BitVec.ofInt 64 (a : Int) &&& BitVec.ofInt 64 (b : Int)).toNat : Int) = _
  rw [BitVec.toNat_and, ofInt_i64 a ha, ofInt_i64 b hb, IntKind.wrap_i64]
  omega
theorem i64_or_nat (a b : Nat) (ha : a < 9223372036854775808) (hb : b < 9223372036854775808) : bits .or .i64 (a : Int) (b : Int) = ((a ||| b : Nat) : Int) := by
  have hx : a ||| b < 2 ^ 63 := Nat.or_lt_two_pow (by omega) (by omega)
  show IntKind.i64.wrap ((BitVec.ofInt 64 (a : Int) ||| BitVec.ofInt 64 (b : Int)).toNat : Int) = _
  rw [BitVec.toNat_or, ofInt_i64 a ha, ofInt_i64 b hb, IntKind.wrap_i64]
  omega
theorem i64_xor_nat (a b : Nat) (ha : a < 9223372036854775808) (hb : b < 9223372036854775808) : bits .xor .i64 (a : Int) (b : Int) = ((a ^^^ b : Nat) : Int) := by
  have hx : a ^^^ b < 2 ^ 63 := Nat.xor_lt_two_pow (by omega) (by omega)
  show IntKind.i64.wrap ((BitVec.ofInt 64 (a : Int) ^^^ BitVec.ofInt 64 (b : Int)).toNat : Int) = _
  rw [BitVec.toNat_xor, ofInt_i64 a ha, ofInt_i64 b hb, IntKind.wrap_i64]
  omega

/-- Exclusive-or of two numbers that are not negative, on natural numbers. -/
def xorI (a b : Int) : Int := ((a.toNat ^^^ b.toNat : Nat) : Int)

theorem bits_xor {a b : Int} (ha : 0 ≤ a) (hb : 0 ≤ b) (ha' : a ≤ 9223372036854775807) (hb' : b ≤ 9223372036854775807) : bits .xor .i64 a b = xorI a b := by
  obtain ⟨m, rfl⟩ := Int.eq_ofNat_of_zero_le ha
  obtain ⟨n, rfl⟩ := Int.eq_ofNat_of_zero_le hb
  rw [i64_xor_nat m n (by omega) (by omega)]; rfl
theorem bits_and_one {a : Int} (ha : 0 ≤ a) (ha' : a ≤ 9223372036854775807) : bits .and .i64 a 1 = a % 2 := by
  obtain ⟨m, rfl⟩ := Int.eq_ofNat_of_zero_le ha
  have := i64_and_nat m 1 (by omega) (by omega)
  rw [Nat.and_one_is_mod] at this
  simpa using this
theorem bits_or_one {a : Int} (ha : 0 ≤ a) (ha' : a ≤ 9223372036854775807) : bits .or .i64 a 1 = a + 1 - a % 2 := by
  obtain ⟨m, rfl⟩ := Int.eq_ofNat_of_zero_le ha
  have h1 := i64_or_nat m 1 (by omega) (by omega)
  have h2 : m ||| 1 = m + 1 - m % 2 := by
    have e : m ||| 1 = 2 * (m / 2) + 1 := by
      have := Nat.two_pow_add_eq_or_of_lt (b := 1) (i := 1) (by omega) (m / 2)
      have h3 : (m ||| 1) / 2 = m / 2 := by
        rw [Nat.or_div_two]; simp
      have h4 : (m ||| 1) % 2 = 1 := by
        rw [Nat.or_mod_two_eq_one]; simp
      omega
    omega
  rw [h2] at h1
  rw [show ((1 : Nat) : Int) = 1 from rfl] at h1
  rw [h1]; omega
theorem xorI_bd {a b : Int} (ha : 0 ≤ a) (hb : 0 ≤ b) (ha' : a ≤ 65535) (hb' : b ≤ 65535) : 0 ≤ xorI a b ∧ xorI a b ≤ 65535 := by
  unfold xorI
  have : a.toNat ^^^ b.toNat < 2 ^ 16 := Nat.xor_lt_two_pow (by omega) (by omega)
  omega
theorem xorI_zero {a : Int} (ha : 0 ≤ a) : xorI a 0 = a := by unfold xorI; simp; omega
end Go.Proofs.YtejeppjmlgfiaaaGreat
