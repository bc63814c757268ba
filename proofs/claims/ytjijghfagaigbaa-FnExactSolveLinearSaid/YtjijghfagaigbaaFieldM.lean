/- Plain facts on primes and on polynomials modulo a prime: a prime divides a product only with a factor; a polynomial has no more roots than its degree. No program. -/
import Derived.Test.YtjijghfagaigbaaPowM
namespace Go.Proofs.Ytjijghfagaigbaa

theorem prime_div {n d : Int} (h : PrimeP n) (hd : d ∣ n) (h0 : 0 < d) : d = 1 ∨ d = n := by
  obtain ⟨e, he⟩ := hd
  have hn := h.1
  have he0 : 0 < e := by
    rcases Int.lt_or_le 0 e with h1 | h1
    · exact h1
    · have : d * e ≤ 0 := Int.mul_nonpos_of_nonneg_of_nonpos (by omega) h1
      omega
  rcases Int.lt_or_le d 2 with hd2 | hd2
  · left; omega
  · rcases Int.lt_or_le e 2 with he2 | he2
    · right
      have : e = 1 := by omega
      subst this; omega
    · exfalso
      rcases Int.lt_or_le d e with hde | hde
      · have h1 : d * d ≤ n := by rw [he]; exact Int.mul_le_mul_of_nonneg_left (by omega) (by omega)
        exact h.2 d hd2 h1 (by rw [he]; exact Int.mul_emod_right d e)
      · have h1 : e * e ≤ n := by rw [he]; exact Int.mul_le_mul_of_nonneg_right hde (by omega)
        exact h.2 e he2 h1 (by rw [he]; exact Int.mul_emod_left d e)

theorem prime_mul {p x y : Int} (h : PrimeP p) (hd : p ∣ x * y) : p ∣ x ∨ p ∣ y := by
  have hp := h.1
  rcases prime_div h (d := (Int.gcd p x : Int)) (Int.gcd_dvd_left ..) (by
    have : 0 < Int.gcd p x := Int.gcd_pos_of_ne_zero_left _ (by omega)
    omega) with h1 | h1
  · right
    have hc : Nat.Coprime p.natAbs x.natAbs := by
      have : Int.gcd p x = 1 := by omega
      exact this
    have h2 : p.natAbs ∣ x.natAbs * y.natAbs := by rw [← Int.natAbs_mul]; exact Int.natAbs_dvd_natAbs.2 hd
    exact Int.natAbs_dvd_natAbs.1 (hc.dvd_of_dvd_mul_left h2)
  · left
    rw [← h1]; exact Int.gcd_dvd_right ..

/-- A monic polynomial: its lower coefficients. -/
def mon : List Int → Int → Int
  | [], _ => 1
  | c :: cs, x => c + x * mon cs x
/-- What is left of a monic polynomial, less its value at r, behind a division by x - r. -/
def quotM : List Int → Int → List Int
  | [], _ => []
  | [_], _ => []
  | _ :: c' :: cs, r => mon (c' :: cs) r :: quotM (c' :: cs) r
theorem quotM_length : ∀ (cs : List Int) (r : Int), (quotM cs r).length = cs.length - 1
  | [], _ => rfl
  | [_], _ => rfl
  | _ :: c' :: cs, r => by
    simp only [quotM, List.length_cons]
    rw [quotM_length (c' :: cs) r]; simp
theorem quotM_spec : ∀ (cs : List Int) (x r : Int), cs ≠ [] → mon cs x - mon cs r = (x - r) * mon (quotM cs r) x
  | [], _, _, h => absurd rfl h
  | [c], x, r, _ => by simp [mon, quotM]; omega
  | c :: c' :: cs, x, r, _ => by
    have ih := quotM_spec (c' :: cs) x r (by simp)
    have e : mon (c :: c' :: cs) x - mon (c :: c' :: cs) r = x * (mon (c' :: cs) x - mon (c' :: cs) r) + (x - r) * mon (c' :: cs) r := by
      simp only [mon]
      simp only [Int.mul_sub, Int.sub_mul]
      omega
    rw [e, ih]
    show _ = (x - r) * (mon (c' :: cs) r + x * mon (quotM (c' :: cs) r) x)
    rw [Int.mul_add, ← Int.mul_assoc, ← Int.mul_assoc, Int.mul_comm x (x - r)]
    omega

/-- A monic polynomial has no more roots modulo a prime than its degree. -/
theorem roots_le {p : Int} (h : PrimeP p) : ∀ (rs cs : List Int), rs.Pairwise (fun a b => ¬ p ∣ b - a) → (∀ r ∈ rs, p ∣ mon cs r) → rs.length ≤ cs.length
  | [], _, _, _ => Nat.zero_le _
  | r :: rs, [], _, hr => by
    have h1 : p ∣ (1 : Int) := hr r (by simp)
    have := Int.le_of_dvd (by omega) h1
    have := h.1
    omega
  | r :: rs, c :: cs, hd, hr => by
    have hd' := List.pairwise_cons.1 hd
    have ih := roots_le h rs (quotM (c :: cs) r) hd'.2 (fun s hs => by
      have h1 : p ∣ (s - r) * mon (quotM (c :: cs) r) s := by
        rw [← quotM_spec (c :: cs) s r (by simp)]
        exact Int.dvd_sub (hr s (by simp [hs])) (hr r (by simp))
      rcases prime_mul h h1 with h2 | h2
      · exact absurd h2 (hd'.1 s hs)
      · exact h2)
    rw [quotM_length] at ih
    simp at ih ⊢
    omega

/-- x^n - 1 as a monic polynomial. -/
theorem mon_zeros (n : Nat) (x : Int) : mon (List.replicate n 0) x = x ^ n := by
  induction n with
  | zero => simp [mon]
  | succ n ih => rw [List.replicate_succ, mon, ih, Int.pow_succ, Int.mul_comm]; omega
theorem mon_pow (n : Nat) (x : Int) : mon (-1 :: List.replicate n 0) x = x ^ (n + 1) - 1 := by
  rw [mon, mon_zeros, Int.pow_succ, Int.mul_comm]; omega
end Go.Proofs.Ytjijghfagaigbaa
