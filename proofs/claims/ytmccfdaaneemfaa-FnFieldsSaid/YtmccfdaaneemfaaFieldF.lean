/- Contracts of the exported functions over small fields: powers, inverses, quotients. No condition. -/
import Derived.Test.YtmccfdaaneemfaaField
namespace Go.Proofs.Ytmccfdaaneemfaa
open Go.RowKit
set_option linter.unusedVariables false

theorem c_impl_PowMod {p a n : Int} {w : World} : Calls Try.prog 18 #[.int .i64 p, .int .i64 a, .int .i64 n] w fun e w' => e = .returned (.tuple #[.int .i64 (oV (powModM p a n)), .bool (oB (powModM p a n))]) ∧ w = w' := by
  rcases h : elemB p a with _ | _ <;> rcases h2 : inB n 0 1000000 with _ | _
  case true.true =>
    have hb := elemB_bd h
    have hb2 := inB_bd h2
    go_enter Try.func18, Try.ntmps18
    go_wp2_with (first | (go_at_call 66; refine (c_impl_isElement).mono ?_; rintro e w' ⟨rfl, rfl⟩) | (go_at_call 70; refine (c_impl_within).mono ?_; rintro e w' ⟨rfl, rfl⟩) | (go_at_call 73; refine (c_impl_power (by omega) (by omega) (by omega)).mono ?_; rintro e w' ⟨rfl, rfl⟩))
    go_ret2; exact ⟨by simp [powModM, oV, oB, h, h2], rfl⟩
  all_goals
    go_enter Try.func18, Try.ntmps18
    go_wp2_with (first | (go_at_call 66; refine (c_impl_isElement).mono ?_; rintro e w' ⟨rfl, rfl⟩) | (go_at_call 70; refine (c_impl_within).mono ?_; rintro e w' ⟨rfl, rfl⟩))
    go_ret2; exact ⟨by simp [powModM, oV, oB, h, h2], rfl⟩
theorem c_impl_InverseMod {p a : Int} {w : World} : Calls Try.prog 14 #[.int .i64 p, .int .i64 a] w fun e w' => e = .returned (.tuple #[.int .i64 (oV (invModM p a)), .bool (oB (invModM p a))]) ∧ w = w' := by
  rcases h : elemB p a with _ | _ <;> rcases h2 : a == 0 with _ | _
  case true.false =>
    have hb := elemB_bd h
    go_enter Try.func14, Try.ntmps14
    go_wp2_with (first | (go_at_call 66; refine (c_impl_isElement).mono ?_; rintro e w' ⟨rfl, rfl⟩) | (go_at_call 67; refine (c_impl_inverse (by omega) (by omega)).mono ?_; rintro e w' ⟨rfl, rfl⟩))
    go_ret2; exact ⟨by simp [invModM, oV, oB, h, h2], rfl⟩
  all_goals
    have HM := Lib.hid (show invModM p a = none by simp only [invModM, h, h2]; rfl)
    go_enter Try.func14, Try.ntmps14
    go_wp2_with (go_at_call 66; refine (c_impl_isElement).mono ?_; rintro e w' ⟨rfl, rfl⟩)
    go_ret2; exact ⟨by rw [HM.out]; rfl, rfl⟩
theorem c_impl_DivideMod {p a b : Int} {w : World} : Calls Try.prog 9 #[.int .i64 p, .int .i64 a, .int .i64 b] w fun e w' => e = .returned (.tuple #[.int .i64 (oV (divModM p a b)), .bool (oB (divModM p a b))]) ∧ w = w' := by
  rcases h : elemB p a with _ | _ <;> rcases h3 : elemB p b with _ | _ <;> rcases h2 : b == 0 with _ | _
  case true.true.false =>
    have hb := elemB_bd h
    have hb3 := elemB_bd h3
    have hi := invM_bd (a := b) (show 0 < p by omega)
    have hm := mul_bd hb.2.2.1 (show a ≤ 300 by omega) hi.1 (show invM p b ≤ 300 by omega)
    have hp0 : ¬ p = 0 := by omega
    go_enter Try.func9, Try.ntmps9
    go_wp2_with (first | (go_at_call 66; refine (c_impl_isElement).mono ?_; rintro e w' ⟨rfl, rfl⟩) | (go_at_call 67; refine (c_impl_inverse (by omega) (by omega)).mono ?_; rintro e w' ⟨rfl, rfl⟩))
    go_ret2; exact ⟨by simp [divModM, oV, oB, h, h2, h3], rfl⟩
  all_goals
    have HM := Lib.hid (show divModM p a b = none by simp only [divModM, h, h2, h3]; rfl)
    go_enter Try.func9, Try.ntmps9
    go_wp2_with (go_at_call 66; refine (c_impl_isElement).mono ?_; rintro e w' ⟨rfl, rfl⟩)
    go_ret2; exact ⟨by rw [HM.out]; rfl, rfl⟩
theorem below_lit {w : World} (o : Obj) : Below w.heap.size w (w.alloc o) := (Below.refl _ _).alloc (Nat.le_refl _) _
theorem c_spec_PowMod {p a n : Int} {w : World} : Calls Try.prog 24 #[.int .i64 p, .int .i64 a, .int .i64 n] w fun e w' => e = .returned (.tuple #[.int .i64 (oV (powModM p a n)), .bool (oB (powModM p a n))]) ∧ Below w.heap.size w w' := by
  have h0 := fpInB_one p a
  rcases h : elemB p a with _ | _ <;> rcases h2 : inB n 0 1000000 with _ | _
  case true.true =>
    have hb := elemB_bd h
    have hb2 := inB_bd h2
    go_enter Try.func24, Try.ntmps24
    go_wp2_with (first | (go_at_call 68; refine (c_spec_fpIn (l := [a]) (ints_lit w [a] _ rfl (by simp)) (by simp)).mono ?_; rintro e w' ⟨rfl, rfl⟩) | (go_at_call 78; refine (c_spec_l1In).mono ?_; rintro e w' ⟨rfl, rfl⟩) | (go_at_call 79; refine (c_spec_fpPow (by omega) (by omega) (by omega)).mono ?_; rintro e w' ⟨rfl, rfl⟩))
    go_ret2; exact ⟨by simp [powModM, oV, oB, h, h2], below_lit _⟩
  all_goals
    go_enter Try.func24, Try.ntmps24
    go_wp2_with (first | (go_at_call 68; refine (c_spec_fpIn (l := [a]) (ints_lit w [a] _ rfl (by simp)) (by simp)).mono ?_; rintro e w' ⟨rfl, rfl⟩) | (go_at_call 78; refine (c_spec_l1In).mono ?_; rintro e w' ⟨rfl, rfl⟩))
    go_ret2; exact ⟨by simp [powModM, oV, oB, h, h2], below_lit _⟩
theorem c_spec_DivideMod {p a b : Int} {w : World} : Calls Try.prog 10 #[.int .i64 p, .int .i64 a, .int .i64 b] w fun e w' => e = .returned (.tuple #[.int .i64 (oV (divModM p a b)), .bool (oB (divModM p a b))]) ∧ Below w.heap.size w w' := by
  have h0 := fpInB_two p a b
  rcases h : elemB p a with _ | _ <;> rcases h3 : elemB p b with _ | _ <;> rcases h2 : b == 0 with _ | _
  case true.true.false =>
    have hb := elemB_bd h
    have hb3 := elemB_bd h3
    have hi := invM_bd (a := b) (show 0 < p by omega)
    have hm := mul_bd hb.2.2.1 (show a ≤ 300 by omega) hi.1 (show invM p b ≤ 300 by omega)
    have hp0 : ¬ p = 0 := by omega
    go_enter Try.func10, Try.ntmps10
    go_wp2_with (first | (go_at_call 68; refine (c_spec_fpIn (l := [a, b]) (ints_lit w [a, b] _ rfl (by simp)) (by simp)).mono ?_; rintro e w' ⟨rfl, rfl⟩) | (go_at_call 69; refine (c_spec_fpInv (by omega) (by omega)).mono ?_; rintro e w' ⟨rfl, rfl⟩))
    go_ret2; exact ⟨by simp [divModM, oV, oB, h, h2, h3], below_lit _⟩
  all_goals
    have HM := Lib.hid (show divModM p a b = none by simp only [divModM, h, h2, h3]; rfl)
    go_enter Try.func10, Try.ntmps10
    go_wp2_with (go_at_call 68; refine (c_spec_fpIn (l := [a, b]) (ints_lit w [a, b] _ rfl (by simp)) (by simp)).mono ?_; rintro e w' ⟨rfl, rfl⟩)
    go_ret2; exact ⟨by rw [HM.out]; rfl, below_lit _⟩
end Go.Proofs.Ytmccfdaaneemfaa
