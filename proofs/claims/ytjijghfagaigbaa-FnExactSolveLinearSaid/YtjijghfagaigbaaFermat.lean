/- Fermat's little theorem, and an element of each prime order that divides p - 1. No program. -/
import Derived.Test.YtjijghfagaigbaaGrpM
namespace Go.Proofs.Ytjijghfagaigbaa
set_option linter.unusedVariables false

theorem perm_of_nodup {α : Type} [DecidableEq α] : ∀ (l1 l2 : List α), l1.Nodup → (∀ x ∈ l1, x ∈ l2) → l2.length ≤ l1.length → l1.Perm l2
  | [], l2, _, _, hl => by
    have : l2 = [] := List.eq_nil_of_length_eq_zero (by simpa using hl)
    subst this; exact List.Perm.nil
  | a :: t, l2, hn, hs, hl => by
    have ha : a ∈ l2 := hs a (by simp)
    have hn' := List.nodup_cons.1 hn
    have h1 := List.perm_cons_erase ha
    have hlen : (l2.erase a).length = l2.length - 1 := List.length_erase_of_mem ha
    have ih := perm_of_nodup t (l2.erase a) hn'.2 (fun x hx => by
      have hne : x ≠ a := fun e => hn'.1 (e ▸ hx)
      exact (List.mem_erase_of_ne hne).2 (hs x (by simp [hx]))) (by simp at hl; omega)
    exact (ih.cons a).trans h1.symm

def prodI (l : List Int) : Int := l.foldr (· * ·) 1
theorem prodI_perm {l1 l2 : List Int} (h : l1.Perm l2) : prodI l1 = prodI l2 := by
  induction h with
  | nil => rfl
  | cons a _ ih => simp only [prodI, List.foldr_cons] at ih ⊢; rw [ih]
  | swap a b l => simp only [prodI, List.foldr_cons]; rw [← Int.mul_assoc, Int.mul_comm b a, Int.mul_assoc]
  | trans _ _ ih1 ih2 => exact ih1.trans ih2
theorem prodI_map (p x : Int) (l : List Int) : prodI (l.map fun y => x * y % p) % p = x ^ l.length * prodI l % p := by
  induction l with
  | nil => simp [prodI]
  | cons a l ih =>
    simp only [prodI, List.map_cons, List.foldr_cons, List.length_cons] at ih ⊢
    rw [Int.mul_emod, Int.emod_emod, ih, ← Int.mul_emod, Int.pow_succ]
    congr 1
    rw [Int.mul_assoc, Int.mul_assoc, ← Int.mul_assoc (x ^ l.length) x, Int.mul_comm (x ^ l.length) x, Int.mul_assoc, ← Int.mul_assoc a, Int.mul_comm a (x ^ l.length), Int.mul_assoc]
theorem prodI_not {p : Int} (hp : PrimeP p) (l : List Int) (h : ∀ y ∈ l, ¬ p ∣ y) : ¬ p ∣ prodI l := by
  induction l with
  | nil =>
    intro h1
    have h2 : p ∣ (1 : Int) := h1
    have := Int.le_of_dvd (by omega) h2
    have := hp.1
    omega
  | cons a l ih =>
    intro h1
    simp only [prodI, List.foldr_cons] at h1
    rcases prime_mul hp h1 with h2 | h2
    · exact h a (by simp) h2
    · exact ih (fun y hy => h y (by simp [hy])) h2

/-- The numbers from 1 to p - 1. -/
def units (p : Int) : List Int := (List.range (p.toNat - 1)).map fun (i : Nat) => (i : Int) + 1
theorem mem_units {p y : Int} : y ∈ units p ↔ 1 ≤ y ∧ y ≤ p - 1 := by
  simp only [units, List.mem_map, List.mem_range]
  constructor
  · rintro ⟨i, hi, rfl⟩; omega
  · intro h; exact ⟨(y - 1).toNat, by omega, by omega⟩
theorem units_length (p : Int) : (units p).length = p.toNat - 1 := by simp [units]
theorem units_nodup (p : Int) : (units p).Nodup := by
  unfold units List.Nodup
  exact List.pairwise_map.2 ((List.pairwise_lt_range (n := p.toNat - 1)).imp fun {a b} h => by omega)
theorem not_dvd_small {p y : Int} (h1 : 1 ≤ y) (h2 : y ≤ p - 1) : ¬ p ∣ y := by
  intro h
  have := Int.le_of_dvd (by omega) h
  omega

theorem fermat {p x : Int} (hp : PrimeP p) (hx : ¬ p ∣ x) : x ^ (p.toNat - 1) % p = 1 := by
  have hp2 := hp.1
  have hmem : ∀ y, 1 ≤ y → y ≤ p - 1 → 1 ≤ x * y % p ∧ x * y % p ≤ p - 1 := by
    intro y h1 h2
    have h3 : 0 ≤ x * y % p := Int.emod_nonneg _ (by omega)
    have h4 : x * y % p < p := Int.emod_lt_of_pos _ (by omega)
    have h5 : ¬ x * y % p = 0 := fun e => by
      rcases prime_mul hp (Int.dvd_of_emod_eq_zero e) with h | h
      · exact hx h
      · exact not_dvd_small h1 h2 h
    omega
  have hperm : ((units p).map fun y => x * y % p).Perm (units p) := by
    apply perm_of_nodup
    · unfold List.Nodup
      refine List.pairwise_map.2 ((units_nodup p).imp_of_mem ?_)
      intro a b ha hb hne e
      have ha' := mem_units.1 ha
      have hb' := mem_units.1 hb
      have hd : p ∣ x * (a - b) := by
        rw [Int.mul_sub]
        exact Int.dvd_of_emod_eq_zero (Int.emod_eq_emod_iff_emod_sub_eq_zero.1 e)
      rcases prime_mul hp hd with h | h
      · exact hx h
      · rcases Int.lt_trichotomy a b with h1 | h1 | h1
        · have h2 : p ∣ b - a := by have := Int.dvd_neg.2 h; rwa [Int.neg_sub] at this
          exact not_dvd_small (by omega) (by omega) h2
        · exact hne h1
        · exact not_dvd_small (by omega) (by omega) h
    · intro z hz
      obtain ⟨y, hy, rfl⟩ := List.mem_map.1 hz
      have hy' := mem_units.1 hy
      exact mem_units.2 (hmem y hy'.1 hy'.2)
    · simp
  have h1 := prodI_map p x (units p)
  rw [prodI_perm hperm, units_length] at h1
  have h2 : p ∣ (x ^ (p.toNat - 1) - 1) * prodI (units p) := by
    rw [Int.sub_mul, Int.one_mul]
    exact Int.dvd_of_emod_eq_zero (Int.emod_eq_emod_iff_emod_sub_eq_zero.1 h1.symm)
  rcases prime_mul hp h2 with h3 | h3
  · exact emod_one_of_dvd hp.1 h3
  · exact absurd h3 (prodI_not hp _ fun y hy => by have := mem_units.1 hy; exact not_dvd_small this.1 this.2)

/-- Each number from 2 on has a prime divisor. -/
theorem prime_divisor : ∀ n : Nat, 2 ≤ n → ∃ q : Int, PrimeP q ∧ q ≤ n ∧ (n : Int) % q = 0 := by
  intro n
  induction n using Nat.strongRecOn with
  | _ n ih =>
    intro hn
    by_cases hp : PrimeP (n : Int)
    · exact ⟨n, hp, by omega, Int.emod_self⟩
    · have hno : ∃ d : Int, 2 ≤ d ∧ d * d ≤ n ∧ (n : Int) % d = 0 := by
        refine Classical.byContradiction fun h => hp ⟨by omega, fun d h1 h2 h3 => h ⟨d, h1, h2, h3⟩⟩
      obtain ⟨d, h1, h2, h3⟩ := hno
      have hdn : d < n := by
        have := Int.mul_le_mul_of_nonneg_right h1 (show 0 ≤ d by omega)
        omega
      obtain ⟨q, hq, hqd, hqm⟩ := ih d.toNat (by omega) (by omega)
      rw [Int.toNat_of_nonneg (by omega)] at hqd hqm
      exact ⟨q, hq, by omega, Int.emod_eq_zero_of_dvd (Int.dvd_trans (Int.dvd_of_emod_eq_zero hqm) (Int.dvd_of_emod_eq_zero h3))⟩

/-- An element of order q, other than 1. -/
theorem gen_exists {p q : Int} (hp : PrimeP p) (hq : PrimeP q) (hd : (p - 1) % q = 0) : ∃ g : Int, 2 ≤ g ∧ g ≤ p - 1 ∧ g ^ q.toNat % p = 1 := by
  have hp2 := hp.1
  have hq2 := hq.1
  obtain ⟨m, hm⟩ := Int.dvd_of_emod_eq_zero hd
  have hm0 : 0 < m := by
    rcases Int.lt_or_le 0 m with h | h
    · exact h
    · have : q * m ≤ 0 := Int.mul_nonpos_of_nonneg_of_nonpos (by omega) h
      omega
  have h2m : 2 * m ≤ q * m := Int.mul_le_mul_of_nonneg_right hq2 (by omega)
  have hx : ∃ x, 1 ≤ x ∧ x ≤ p - 1 ∧ ¬ x ^ m.toNat % p = 1 := by
    refine Classical.byContradiction fun h => ?_
    have hall : ∀ x ∈ units p, p ∣ mon (-1 :: List.replicate (m.toNat - 1) 0) x := by
      intro x hx
      have hx' := mem_units.1 hx
      rw [mon_pow]
      have e : m.toNat - 1 + 1 = m.toNat := by omega
      rw [e]
      exact dvd_of_emod_one hp2 (Classical.byContradiction fun h1 => h ⟨x, hx'.1, hx'.2, h1⟩)
    have hle := roots_le hp (units p) (-1 :: List.replicate (m.toNat - 1) 0) ((units_nodup p).imp_of_mem (fun {a b} ha hb hne hdv => by
      have ha' := mem_units.1 ha
      have hb' := mem_units.1 hb
      rcases Int.lt_trichotomy a b with h1 | h1 | h1
      · exact not_dvd_small (by omega) (by omega) hdv
      · exact hne h1
      · have h2 : p ∣ a - b := by have := Int.dvd_neg.2 hdv; rwa [Int.neg_sub] at this
        exact not_dvd_small (by omega) (by omega) h2)) hall
    rw [units_length] at hle
    simp at hle
    omega
  obtain ⟨x, hx1, hx2, hx3⟩ := hx
  have hxd := not_dvd_small hx1 hx2
  have hf := fermat hp hxd
  have hg0 : 0 ≤ x ^ m.toNat % p := Int.emod_nonneg _ (by omega)
  have hg1 : x ^ m.toNat % p < p := Int.emod_lt_of_pos _ (by omega)
  have hgq : (x ^ m.toNat % p) ^ q.toNat % p = 1 := by
    rw [pow_emod, ← Int.pow_mul]
    have e : m.toNat * q.toNat = p.toNat - 1 := by
      have : ((m.toNat * q.toNat : Nat) : Int) = ((p.toNat - 1 : Nat) : Int) := by
        rw [Int.natCast_mul, Int.toNat_of_nonneg (by omega), Int.toNat_of_nonneg (by omega), Int.mul_comm, ← hm]; omega
      omega
    rw [e]; exact hf
  have hgz : ¬ x ^ m.toNat % p = 0 := fun e => not_dvd_pow hp hxd _ (Int.dvd_of_emod_eq_zero e)
  exact ⟨x ^ m.toNat % p, by omega, by omega, hgq⟩

/-- The inverse of an element. -/
theorem inv_mul {p a : Int} (hp : PrimeP p) (ha : ¬ p ∣ a) : (a * powM p a (p - 2)) % p = 1 := by
  have hp2 := hp.1
  unfold powM
  rw [Int.mul_emod, Int.emod_emod, ← Int.mul_emod, Int.mul_comm, ← Int.pow_succ]
  have e : (p - 2).toNat + 1 = p.toNat - 1 := by omega
  rw [show (p - 2).toNat.succ = p.toNat - 1 from e]; exact fermat hp ha
end Go.Proofs.Ytjijghfagaigbaa
