/- Contracts of the functions over small fields: elements, powers, inverses, quotients. No condition but those named. -/
import Derived.Test.YtmccfdaaneemfaaPrim
import Derived.Test.YtmccfdaaneemfaaAll
namespace Go.Proofs.Ytmccfdaaneemfaa
open Go.RowKit
set_option linter.unusedVariables false

/-- A number is a modulus of a field. -/
noncomputable def fldB (p : Int) : Bool := inB p 2 251 && primeB p
noncomputable def elemB (p a : Int) : Bool := fldB p && inB a 0 (p - 1)
theorem fldB_bd {p : Int} (h : fldB p = true) : 2 ≤ p ∧ p ≤ 251 := by simp [fldB] at h; exact inB_bd h.1
theorem elemB_bd {p a : Int} (h : elemB p a = true) : 2 ≤ p ∧ p ≤ 251 ∧ 0 ≤ a ∧ a ≤ p - 1 := by
  simp [elemB] at h; exact ⟨(fldB_bd h.1).1, (fldB_bd h.1).2, (inB_bd h.2).1, (inB_bd h.2).2⟩
theorem elemB_fld {p a : Int} (h : elemB p a = true) : fldB p = true := by simp [elemB] at h; exact h.1
theorem k_impl_IsPrime {n : Int} {w : World} : Calls Try.prog 11 #[.int .i64 n] w fun e w' => e = .returned (.bool (fldB n)) ∧ w = w' := c_impl_IsPrime
theorem k_spec_fpGood {n : Int} {w : World} : Calls Try.prog 71 #[.int .i64 n] w fun e w' => e = .returned (.bool (fldB n)) ∧ w = w' := c_spec_fpGood
theorem c_impl_isElement {p a : Int} {w : World} : Calls Try.prog 66 #[.int .i64 p, .int .i64 a] w fun e w' => e = .returned (.bool (elemB p a)) ∧ w = w' := by
  rcases h : fldB p with _ | _
  · go_enter Try.func66, Try.ntmps66
    go_wp2_with (go_at_call 11; refine (k_impl_IsPrime).mono ?_; rintro e w' ⟨rfl, rfl⟩)
    go_ret; exact ⟨by simp [elemB, h], rfl⟩
  · have hb := fldB_bd h
    go_enter Try.func66, Try.ntmps66
    go_wp2_with (first | (go_at_call 11; refine (k_impl_IsPrime).mono ?_; rintro e w' ⟨rfl, rfl⟩) | (go_at_call 70; refine (c_impl_within).mono ?_; rintro e w' ⟨rfl, rfl⟩))
    go_ret; exact ⟨by simp [elemB, h], rfl⟩
/-- A list of numbers of a field. -/
noncomputable def fpInB (p : Int) (l : List Int) : Bool := fldB p && allB l 0 (p - 1)
theorem fpInB_one (p a : Int) : fpInB p [a] = elemB p a := by simp [fpInB, elemB, allB]
theorem fpInB_two (p a b : Int) : fpInB p [a, b] = (elemB p a && elemB p b) := by
  simp [fpInB, elemB, allB]
  cases fldB p <;> simp
theorem c_spec_fpIn {p : Int} {v : Value} {l : List Int} {w : World} (h : Ints w v l) (hl : l.length ≤ 2097152) : Calls Try.prog 68 #[.int .i64 p, v] w fun e w' => e = .returned (.bool (fpInB p l)) ∧ w = w' := by
  have H := Lib.hid h
  obtain ⟨A, c, rfl, hlc, hcm, hrd⟩ := h
  rcases h : fldB p with _ | _
  · go_enter Try.func68, Try.ntmps68
    go_wp2_with (go_at_call 71; refine (k_spec_fpGood).mono ?_; rintro e w' ⟨rfl, rfl⟩)
    go_ret; exact ⟨by simp [fpInB, h], rfl⟩
  · have hb := fldB_bd h
    go_enter Try.func68, Try.ntmps68
    go_wp2_with (first | (go_at_call 71; refine (k_spec_fpGood).mono ?_; rintro e w' ⟨rfl, rfl⟩) | (go_at_call 123; refine (c_spec_l1All H.out hl).mono ?_; rintro e w' ⟨rfl, rfl⟩))
    go_ret; exact ⟨by simp [fpInB, h], rfl⟩
theorem c_impl_inverse {p a : Int} {w : World} (hp : 2 ≤ p ∧ p ≤ 3000) (ha : 0 ≤ a ∧ a ≤ 3000) : Calls Try.prog 67 #[.int .i64 p, .int .i64 a] w fun e w' => e = .returned (.int .i64 (invM p a)) ∧ w = w' := by
  go_enter Try.func67, Try.ntmps67
  go_wp2_with (go_at_call 73; refine (c_impl_power (by omega) (by omega) (by omega)).mono ?_; rintro e w' ⟨rfl, rfl⟩)
  go_ret; exact ⟨rfl, rfl⟩
theorem c_spec_fpInv {p a : Int} {w : World} (hp : 2 ≤ p ∧ p ≤ 3000) (ha : 0 ≤ a ∧ a ≤ 3000) : Calls Try.prog 69 #[.int .i64 p, .int .i64 a] w fun e w' => e = .returned (.int .i64 (invM p a)) ∧ w = w' := by
  go_enter Try.func69, Try.ntmps69
  go_wp2_with (go_at_call 79; refine (c_spec_fpPow (by omega) (by omega) (by omega)).mono ?_; rintro e w' ⟨rfl, rfl⟩)
  go_ret; exact ⟨rfl, rfl⟩
noncomputable def powModM (p a n : Int) : Option Int := if elemB p a && inB n 0 1000000 then some (powM p a n) else none
noncomputable def invModM (p a : Int) : Option Int := if elemB p a && !(a == 0) then some (invM p a) else none
noncomputable def divModM (p a b : Int) : Option Int := if elemB p a && elemB p b && !(b == 0) then some (a * invM p b % p) else none
end Go.Proofs.Ytmccfdaaneemfaa
