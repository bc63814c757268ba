/- Contracts of FindWrong and JoinDespite, the exported ones. Conditions: the lists are short. -/
import Derived.Test.YtmccfdaaneemfaaThrE
namespace Go.Proofs.Ytmccfdaaneemfaa
open Go.RowKit
set_option linter.unusedVariables false

noncomputable def wrongM (p : Int) (xs ys : List Int) (t : Int) : Option Int :=
  if askB p xs ys t && !(fitS p xs ys t.toNat) && decide (t + 2 ≤ (xs.length : Int)) && decide (0 ≤ lastM (gB p xs ys t.toNat) xs.length) then some (lastM (gB p xs ys t.toNat) xs.length) else none
noncomputable def despM (p : Int) (xs ys : List Int) (t : Int) : Option Int :=
  if askB p xs ys t then (if fitS p xs ys t.toNat then some (atM p xs ys 0) else match wrongM p xs ys t with
    | some k => some (atM p (xs.eraseIdx k.toNat) (ys.eraseIdx k.toNat) 0)
    | none => none) else none
theorem areSh_ok {p : Int} {xs ys : List Int} {n : Nat} (hA : askB p xs ys (n : Int) = true) : areShM p xs ys (n : Int) = some (fitS p xs ys n) := by unfold areShM; rw [hA]; rfl
theorem areSh_no {p : Int} {xs ys : List Int} {t : Int} (hA : askB p xs ys t = false) : areShM p xs ys t = none := by unfold areShM; rw [hA]; rfl
theorem wrong_no1 {p : Int} {xs ys : List Int} {t : Int} (hA : askB p xs ys t = false) : wrongM p xs ys t = none := by unfold wrongM; rw [hA]; rfl
theorem wrong_no2 {p : Int} {xs ys : List Int} {n : Nat} (hA : fitS p xs ys n = true) : wrongM p xs ys (n : Int) = none := by unfold wrongM; rw [Int.toNat_natCast, hA]; simp
theorem wrong_no3 {p : Int} {xs ys : List Int} {t : Int} (h : ¬ t + 2 ≤ (xs.length : Int)) : wrongM p xs ys t = none := by unfold wrongM; rw [decide_eq_false h]; simp
theorem wrong_no4 {p : Int} {xs ys : List Int} {n : Nat} (h : ¬ 0 ≤ lastM (gB p xs ys n) xs.length) : wrongM p xs ys (n : Int) = none := by unfold wrongM; rw [Int.toNat_natCast, decide_eq_false h]; simp
theorem wrong_yes {p : Int} {xs ys : List Int} {n : Nat} (hA : askB p xs ys (n : Int) = true) (hf : fitS p xs ys n = false) (h2 : (n : Int) + 2 ≤ (xs.length : Int)) (h : 0 ≤ lastM (gB p xs ys n) xs.length) : wrongM p xs ys (n : Int) = some (lastM (gB p xs ys n) xs.length) := by
  unfold wrongM; rw [Int.toNat_natCast, hA, hf, decide_eq_true h2, decide_eq_true h]; rfl
/-- Where a wrong share was found it is one of them. -/
theorem wrong_at {p : Int} {xs ys : List Int} {t k : Int} (h : wrongM p xs ys t = some k) : askB p xs ys t = true ∧ t + 2 ≤ (xs.length : Int) ∧ ∃ j : Nat, k = (j : Int) ∧ j < xs.length := by
  unfold wrongM at h
  split at h
  · rename_i hc
    simp only [Bool.and_eq_true, decide_eq_true_eq] at hc
    injection h with h
    refine ⟨hc.1.1.1, hc.1.2, ?_⟩
    rcases lastM_cases (gB p xs ys t.toNat) xs.length with h1 | ⟨j, hj, h1, _⟩
    · have := hc.2; omega
    · exact ⟨j, by omega, hj⟩
  · cases h
end Go.Proofs.Ytmccfdaaneemfaa
