/- Plain facts on the order of an element modulo a prime. No program. -/
import Derived.Test.YtmccfdaaneemfaaFermat
namespace Go.Proofs.Ytmccfdaaneemfaa
set_option linter.unusedVariables false

def IsOrd (p a : Int) (n : Nat) : Prop := 0 < n ∧ a ^ n % p = 1 ∧ ∀ m : Nat, 0 < m → m < n → ¬ a ^ m % p = 1
theorem ord_exists {p a : Int} (hp : PrimeP p) (ha : ¬ p ∣ a) : ∃ n, IsOrd p a n ∧ n ≤ p.toNat - 1 := by
  have hp2 := hp.1
  obtain ⟨m, ⟨h1, h2⟩, h3⟩ := least_of (p := fun n => 0 < n ∧ a ^ n % p = 1) (p.toNat - 1) ⟨by omega, fermat hp ha⟩
  refine ⟨m, ⟨h1, h2, fun k hk hkm h => h3 k hkm ⟨hk, h⟩⟩, ?_⟩
  rcases Nat.lt_or_ge (p.toNat - 1) m with h | h
  · exact absurd ⟨by omega, fermat hp ha⟩ (h3 _ h)
  · exact h
theorem IsOrd.same {p a : Int} {m n : Nat} (hm : IsOrd p a m) (hn : IsOrd p a n) : m = n := by
  rcases Nat.lt_trichotomy m n with h | h | h
  · exact absurd hm.2.1 (hn.2.2 m hm.1 h)
  · exact h
  · exact absurd hn.2.1 (hm.2.2 n hn.1 h)
noncomputable def ordN (p a : Int) : Nat := @dite _ (∃ n, IsOrd p a n) (Classical.propDecidable _) (fun h => Classical.choose h) (fun _ => 0)
theorem ordN_of {p a : Int} {n : Nat} (h : IsOrd p a n) : ordN p a = n := by
  have hx : ∃ n, IsOrd p a n := ⟨n, h⟩
  unfold ordN; rw [dif_pos hx]
  exact (Classical.choose_spec hx).same h
theorem ord_dvd {p a : Int} {n m : Nat} (hp : 2 ≤ p) (h : IsOrd p a n) (hm : a ^ m % p = 1) : m % n = 0 := by
  have h1 : a ^ (n * (m / n) + m % n) % p = a ^ (m % n) % p := pow_one_add hp h.2.1 (m / n) (m % n)
  rw [Nat.div_add_mod, hm] at h1
  rcases Nat.eq_zero_or_pos (m % n) with h0 | h0
  · exact h0
  · exact absurd h1.symm (h.2.2 _ h0 (Nat.mod_lt _ h.1))
end Go.Proofs.Ytmccfdaaneemfaa
