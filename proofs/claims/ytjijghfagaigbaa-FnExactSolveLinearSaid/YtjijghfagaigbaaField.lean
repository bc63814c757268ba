/- Contracts of the functions over small fields: elements, powers, inverses, quotients. No condition but those named. -/
import Derived.Test.YtjijghfagaigbaaPrim
import Derived.Test.YtjijghfagaigbaaAll
namespace Go.Proofs.Ytjijghfagaigbaa
open Go.RowKit
set_option linter.unusedVariables false

/-- A number is a modulus of a field. -/
noncomputable def fldB (p : Int) : Bool := inB p 2 251 && primeB p
noncomputable def elemB (p a : Int) : Bool := fldB p && inB a 0 (p - 1)
theorem fldB_bd {p : Int} (h : fldB p = true) : 2 ≤ p ∧ p ≤ 251 := by simp [fldB] at h; exact inB_bd h.1
theorem elemB_bd {p a : Int} (h : elemB p a = true) : 2 ≤ p ∧ p ≤ 251 ∧ 0 ≤ a ∧ a ≤ p - 1 := by
  simp [elemB] at h; exact ⟨(fldB_bd h.1).1, (fldB_bd h.1).2, (inB_bd h.2).1, (inB_bd h.2).2⟩
theorem elemB_fld {p a : Int} (h : elemB p a = true) : fldB p = true := by simp [elemB] at h; exact h.1
theorem k_impl_IsPrime {n : Int} {w : World} : Calls Try.prog 28 #[.int .i64 n] w fun e w' => e = .returned (.bool (fldB n)) ∧ w = w' := c_impl_IsPrime
theorem k_spec_fpGood {n : Int} {w : World} : Calls Try.prog 25 #[.int .i64 n] w fun e w' => e = .returned (.bool (fldB n)) ∧ w = w' := c_spec_fpGood
/-- A list of numbers of a field. -/
noncomputable def fpInB (p : Int) (l : List Int) : Bool := fldB p && allB l 0 (p - 1)
theorem fpInB_one (p a : Int) : fpInB p [a] = elemB p a := by simp [fpInB, elemB, allB]
theorem fpInB_two (p a b : Int) : fpInB p [a, b] = (elemB p a && elemB p b) := by
  simp [fpInB, elemB, allB]
  cases fldB p <;> simp
theorem c_impl_inverse {p a : Int} {w : World} (hp : 2 ≤ p ∧ p ≤ 3000) (ha : 0 ≤ a ∧ a ≤ 3000) : Calls Try.prog 33 #[.int .i64 p, .int .i64 a] w fun e w' => e = .returned (.int .i64 (invM p a)) ∧ w = w' := by
  go_enter Try.func33, Try.ntmps33
  go_wp2_with (go_at_call 36; refine (c_impl_power (by omega) (by omega) (by omega)).mono ?_; rintro e w' ⟨rfl, rfl⟩)
  go_ret; exact ⟨rfl, rfl⟩
theorem c_spec_fpInv {p a : Int} {w : World} (hp : 2 ≤ p ∧ p ≤ 3000) (ha : 0 ≤ a ∧ a ≤ 3000) : Calls Try.prog 17 #[.int .i64 p, .int .i64 a] w fun e w' => e = .returned (.int .i64 (invM p a)) ∧ w = w' := by
  go_enter Try.func17, Try.ntmps17
  go_wp2_with (go_at_call 27; refine (c_spec_fpPow (by omega) (by omega) (by omega)).mono ?_; rintro e w' ⟨rfl, rfl⟩)
  go_ret; exact ⟨rfl, rfl⟩
noncomputable def powModM (p a n : Int) : Option Int := if elemB p a && inB n 0 1000000 then some (powM p a n) else none
noncomputable def invModM (p a : Int) : Option Int := if elemB p a && !(a == 0) then some (invM p a) else none
noncomputable def divModM (p a b : Int) : Option Int := if elemB p a && elemB p b && !(b == 0) then some (a * invM p b % p) else none
end Go.Proofs.Ytjijghfagaigbaa
