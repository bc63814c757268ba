/- Plain facts on groups of prime order modulo a prime: each element other than 1 generates all. No program. -/
import Derived.Test.YtjijghfagaigbaaFieldM
namespace Go.Proofs.Ytjijghfagaigbaa
set_option linter.unusedVariables false

theorem one_emod {P : Int} (h : 2 ≤ P) : (1 : Int) % P = 1 := Int.emod_eq_of_lt (by omega) (by omega)
theorem pow_one_mul {P a : Int} {k : Nat} (hP : 2 ≤ P) (h : a ^ k % P = 1) (m : Nat) : a ^ (k * m) % P = 1 := by
  rw [Int.pow_mul, ← pow_emod, h, Int.one_pow, one_emod hP]
theorem pow_one_add {P a : Int} {k : Nat} (hP : 2 ≤ P) (h : a ^ k % P = 1) (m r : Nat) : a ^ (k * m + r) % P = a ^ r % P := by
  rw [Int.pow_add, Int.mul_emod, pow_one_mul hP h m, Int.one_mul, Int.emod_emod]
theorem dvd_of_emod_one {P x : Int} (hP : 2 ≤ P) (h : x % P = 1) : P ∣ x - 1 := by
  apply Int.dvd_of_emod_eq_zero
  rw [Int.sub_emod, h, one_emod hP]; simp
theorem emod_one_of_dvd {P x : Int} (hP : 2 ≤ P) (h : P ∣ x - 1) : x % P = 1 := by
  have h1 := Int.emod_emod_of_dvd x (Int.dvd_refl P)
  have h2 : x % P = (x - 1 + 1) % P := by congr 1; omega
  rw [h2, Int.add_emod, Int.emod_eq_zero_of_dvd h, Int.zero_add, Int.emod_emod, one_emod hP]

/-- The order of an element other than 1 is the prime itself. -/
theorem order_min {P Q a : Int} (hP : 2 ≤ P) (hQ : PrimeP Q) (h1 : ¬ a % P = 1) (h : a ^ Q.toNat % P = 1) : ∀ k : Nat, 0 < k → k < Q.toNat → ¬ a ^ k % P = 1 := by
  intro k
  induction k using Nat.strongRecOn with
  | _ k ih =>
    intro hk hkQ hak
    have hdiv : k * (Q.toNat / k) + Q.toNat % k = Q.toNat := Nat.div_add_mod _ _
    have hr : a ^ (Q.toNat % k) % P = 1 := by
      rw [← pow_one_add hP hak (Q.toNat / k) (Q.toNat % k), hdiv]; exact h
    have hlt : Q.toNat % k < k := Nat.mod_lt _ hk
    rcases Nat.eq_zero_or_pos (Q.toNat % k) with h0 | h0
    · have hkd : (k : Int) ∣ Q := by
        have h2 : k ∣ Q.toNat := Nat.dvd_of_mod_eq_zero h0
        have h3 : (k : Int) ∣ (Q.toNat : Int) := Int.natCast_dvd_natCast.2 h2
        have hq := hQ.1
        rwa [Int.toNat_of_nonneg (by omega)] at h3
      rcases prime_div hQ hkd (by omega) with h2 | h2
      · have : k = 1 := by omega
        subst this
        rw [Int.pow_succ, Int.pow_zero, Int.one_mul] at hak
        exact h1 hak
      · omega
    · exact ih _ hlt h0 (by omega) hr

theorem not_dvd_pow {P a : Int} (hP : PrimeP P) (h : ¬ P ∣ a) : ∀ i : Nat, ¬ P ∣ a ^ i := by
  intro i
  induction i with
  | zero =>
    intro h1
    rw [Int.pow_zero] at h1
    have := Int.le_of_dvd (by omega) h1
    have := hP.1
    omega
  | succ i ih =>
    intro h1
    rw [Int.pow_succ] at h1
    rcases prime_mul hP h1 with h2 | h2
    · exact ih h2
    · exact h h2

theorem pow_distinct {P Q a : Int} (hP : PrimeP P) (hQ : PrimeP Q) (ha : ¬ P ∣ a) (h1 : ¬ a % P = 1) (h : a ^ Q.toNat % P = 1) {i j : Nat} (hij : i < j) (hj : j < Q.toNat) : ¬ P ∣ a ^ j - a ^ i := by
  intro hd
  have e : a ^ j - a ^ i = a ^ i * (a ^ (j - i) - 1) := by
    rw [Int.mul_sub, ← Int.pow_add, Int.mul_one]
    congr 2; omega
  rw [e] at hd
  rcases prime_mul hP hd with h2 | h2
  · exact not_dvd_pow hP ha i h2
  · exact order_min hP.1 hQ h1 h (j - i) (by omega) (by omega) (emod_one_of_dvd hP.1 h2)

theorem root_of {P Q x : Int} (hP : 2 ≤ P) (hQ : 2 ≤ Q) (h : x ^ Q.toNat % P = 1) : P ∣ mon (-1 :: List.replicate (Q.toNat - 1) 0) x := by
  rw [mon_pow]
  have e : Q.toNat - 1 + 1 = Q.toNat := by omega
  rw [e]; exact dvd_of_emod_one hP h
theorem pow_root {P Q a : Int} (hP : 2 ≤ P) (h : a ^ Q.toNat % P = 1) (i : Nat) : (a ^ i) ^ Q.toNat % P = 1 := by
  rw [← Int.pow_mul, Nat.mul_comm, Int.pow_mul, ← pow_emod, h, Int.one_pow, one_emod hP]
theorem not_dvd_of_root {P Q a : Int} (hP : 2 ≤ P) (hQ : 2 ≤ Q) (h : a ^ Q.toNat % P = 1) : ¬ P ∣ a := by
  intro hd
  have h2 : a ^ Q.toNat % P = 0 := by
    have e : Q.toNat = Q.toNat - 1 + 1 := by omega
    rw [e, Int.pow_succ]
    exact Int.emod_eq_zero_of_dvd (Int.dvd_trans hd (Int.dvd_mul_left _ _))
  omega

/-- Each element is a power of each other than 1. -/
theorem log_exists {P Q a b : Int} (hP : PrimeP P) (hQ : PrimeP Q) (h1 : ¬ a % P = 1) (h : a ^ Q.toNat % P = 1) (hb0 : 0 ≤ b) (hb1 : b < P) (hb : b ^ Q.toNat % P = 1) :
    ∃ i : Nat, i < Q.toNat ∧ a ^ i % P = b := by
  refine Classical.byContradiction fun hno => ?_
  have hno' : ∀ i : Nat, i < Q.toNat → ¬ P ∣ a ^ i - b := by
    intro i hi hd
    refine hno ⟨i, hi, ?_⟩
    have e := (Int.emod_emod_of_dvd (a ^ i) (Int.dvd_refl P))
    have h2 : a ^ i % P = (a ^ i - b + b) % P := by congr 1; omega
    rw [h2, Int.add_emod, Int.emod_eq_zero_of_dvd hd, Int.zero_add, Int.emod_emod]
    exact Int.emod_eq_of_lt hb0 hb1
  have ha := not_dvd_of_root hP.1 hQ.1 h
  have hq := hQ.1
  have := roots_le hP (b :: (List.range Q.toNat).map fun i => a ^ i) (-1 :: List.replicate (Q.toNat - 1) 0)
    (List.pairwise_cons.2 ⟨fun x hx => by
        obtain ⟨i, hi, rfl⟩ := List.mem_map.1 hx
        exact hno' i (List.mem_range.1 hi),
      List.pairwise_map.2 ((List.pairwise_lt_range (n := Q.toNat)).imp_of_mem fun {i j} _ hj hij => pow_distinct hP hQ ha h1 h hij (List.mem_range.1 hj))⟩)
    (fun x hx => by
      rcases List.mem_cons.1 hx with rfl | hx
      · exact root_of hP.1 hQ.1 hb
      · obtain ⟨i, _, rfl⟩ := List.mem_map.1 hx
        exact root_of hP.1 hQ.1 (pow_root hP.1 h i))
  simp at this
  omega

/-- The least exponent. -/
def IsLog (P a b : Int) (n : Nat) : Prop := a ^ n % P = b ∧ ∀ m : Nat, m < n → ¬ a ^ m % P = b
theorem least_of {p : Nat → Prop} : ∀ n : Nat, p n → ∃ m, p m ∧ ∀ k : Nat, k < m → ¬ p k := by
  intro n
  induction n using Nat.strongRecOn with
  | _ n ih =>
    intro hn
    by_cases h : ∃ k, k < n ∧ p k
    · obtain ⟨k, hk, hpk⟩ := h
      exact ih k hk hpk
    · exact ⟨n, hn, fun k hk hpk => h ⟨k, hk, hpk⟩⟩
theorem log_least {P Q a b : Int} (hP : PrimeP P) (hQ : PrimeP Q) (h1 : ¬ a % P = 1) (h : a ^ Q.toNat % P = 1) (hb0 : 0 ≤ b) (hb1 : b < P) (hb : b ^ Q.toNat % P = 1) :
    ∃ n : Nat, n < Q.toNat ∧ IsLog P a b n := by
  obtain ⟨i, hi, hi2⟩ := log_exists hP hQ h1 h hb0 hb1 hb
  obtain ⟨m, hm, hmin⟩ := least_of (p := fun n => a ^ n % P = b) i hi2
  refine ⟨m, ?_, hm, hmin⟩
  rcases Nat.lt_or_ge i m with h2 | h2
  · exact absurd hi2 (hmin i h2)
  · omega
end Go.Proofs.Ytjijghfagaigbaa
