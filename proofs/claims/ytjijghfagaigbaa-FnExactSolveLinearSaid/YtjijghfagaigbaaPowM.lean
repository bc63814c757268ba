/- Plain facts on powers modulo a number, and on primes. No program. -/
namespace Go.Proofs.Ytjijghfagaigbaa

theorem pow_emod (x p : Int) (k : Nat) : (x % p) ^ k % p = x ^ k % p := by
  induction k with
  | zero => rw [Int.pow_zero, Int.pow_zero]
  | succ k ih => rw [Int.pow_succ, Int.pow_succ, Int.mul_emod, ih, Int.emod_emod, ← Int.mul_emod]

/-- A power: the base to the exponent, modulo p. -/
def powM (p a n : Int) : Int := a ^ n.toNat % p

theorem pow_start (p a : Int) (m : Nat) : (1 % p * a ^ m) % p = a ^ m % p := by
  rw [Int.mul_emod, Int.emod_emod, ← Int.mul_emod, Int.one_mul]
theorem pow_even (p o a : Int) (m k : Nat) (h : m = 2 * k) : (o * (a * a % p) ^ k) % p = (o * a ^ m) % p := by
  subst h
  rw [Int.mul_emod, pow_emod, ← Int.mul_emod, Int.pow_mul]
  congr 3
  rw [Int.pow_succ, Int.pow_succ, Int.pow_zero, Int.one_mul]
theorem pow_odd (p o a : Int) (m k : Nat) (h : m = 2 * k + 1) : ((o * a % p) * (a * a % p) ^ k) % p = (o * a ^ m) % p := by
  subst h
  have h1 := pow_even p (o * a % p) a (2 * k) k rfl
  rw [h1, Int.mul_emod, Int.emod_emod, ← Int.mul_emod, Int.pow_succ, Int.mul_assoc, Int.mul_comm a]
theorem pow_end (p o a : Int) (ho : 0 ≤ o) (hp : o < p) : (o * a ^ 0) % p = o := by
  rw [Int.pow_zero, Int.mul_one]; exact Int.emod_eq_of_lt ho hp
theorem mul_bd {a b c d : Int} (ha : 0 ≤ a) (hac : a ≤ c) (hb : 0 ≤ b) (hbd : b ≤ d) : 0 ≤ a * b ∧ a * b ≤ c * d :=
  ⟨Int.mul_nonneg ha hb, Int.mul_le_mul hac hbd hb (by omega)⟩
theorem powM_bd {p : Int} (a n : Int) (hp : 0 < p) : 0 ≤ powM p a n ∧ powM p a n < p := ⟨Int.emod_nonneg _ (by omega), Int.emod_lt_of_pos _ hp⟩
/-- The inverse of an element other than 0. -/
def invM (p a : Int) : Int := powM p a (p - 2)
theorem invM_bd {p a : Int} (hp : 0 < p) : 0 ≤ invM p a ∧ invM p a < p := powM_bd a (p - 2) hp

/-- No number from 2 on whose square is at most n divides n; n is 2 at least. -/
def PrimeP (n : Int) : Prop := 2 ≤ n ∧ ∀ d, 2 ≤ d → d * d ≤ n → ¬ n % d = 0
noncomputable def primeB (n : Int) : Bool := @decide (PrimeP n) (Classical.propDecidable _)
theorem primeB_iff {n : Int} : primeB n = true ↔ PrimeP n := by
  unfold primeB; exact @decide_eq_true_iff _ (Classical.propDecidable _)
theorem primeB_no {n : Int} (h : ¬ PrimeP n) : primeB n = false := by
  rcases hb : primeB n with _ | _
  · rfl
  · exact absurd (primeB_iff.1 hb) h
theorem sq_bd {d n : Int} (_h2 : 2 ≤ d) (hn : n ≤ 1000000) (h : d * d ≤ n) : d ≤ 1000 := by
  rcases Int.lt_or_le 1000 d with h1 | h1
  · have := Int.mul_le_mul (show (1001 : Int) ≤ d by omega) (show (1001 : Int) ≤ d by omega) (by omega) (by omega)
    omega
  · exact h1
theorem sq_mono {d e : Int} (h0 : 0 ≤ d) (h : d ≤ e) : d * d ≤ e * e := Int.mul_le_mul h h h0 (by omega)
end Go.Proofs.Ytjijghfagaigbaa
