/- Contracts of lists of points and of weights. Conditions: the lists are short, the numbers elements of the field. -/
import Derived.Test.YtjijghfagaigbaaPtsA
import Derived.Test.YtjijghfagaigbaaBtMod
namespace Go.Proofs.Ytjijghfagaigbaa
open Go.RowKit
set_option linter.unusedVariables false

/-- Lists are points. -/
noncomputable def ptsB (p : Int) (xs ys : List Int) : Bool := fpInB p xs && fpInB p ys && decide ((xs.length : Int) ≤ 12) && decide ((xs.length : Int) = (ys.length : Int)) && decide xs.Nodup
theorem fpInB_of {p : Int} {l : List Int} (h : fpInB p l = true) : fldB p = true ∧ ∀ x ∈ l, 0 ≤ x ∧ x < p := by
  simp only [fpInB, Bool.and_eq_true, allB] at h
  refine ⟨h.1, fun x hx => ?_⟩
  have := inB_bd (List.all_eq_true.1 h.2 x hx)
  omega
theorem fldB_prime {p : Int} (h : fldB p = true) : PrimeP p := by
  simp only [fldB, Bool.and_eq_true] at h; exact primeB_iff.1 h.2
theorem ptsB_of {p : Int} {xs ys : List Int} (h : ptsB p xs ys = true) : PrimeP p ∧ (2 ≤ p ∧ p ≤ 251) ∧ (∀ x ∈ xs, 0 ≤ x ∧ x < p) ∧ (∀ y ∈ ys, 0 ≤ y ∧ y < p) ∧ xs.length ≤ 12 ∧ xs.length = ys.length ∧ xs.Nodup := by
  simp only [ptsB, Bool.and_eq_true, decide_eq_true_eq] at h
  obtain ⟨⟨⟨⟨h1, h2⟩, h3⟩, h4⟩, h5⟩ := h
  have k1 := fpInB_of h1
  have k2 := fpInB_of h2
  exact ⟨fldB_prime k1.1, fldB_bd k1.1, k1.2, k2.2, by omega, by omega, h5⟩
end Go.Proofs.Ytjijghfagaigbaa
