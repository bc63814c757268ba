/- Contracts of the functions on single numbers: ranges, labels, offsets, keys. They leave memory alone. No condition but the bounds that each names. -/
import Derived.Test.YtejeppjmlgfiaaaGreatChecked
import Derived.Test.YtejeppjmlgfiaaaGreatBits
import Derived.Test.YtejeppjmlgfiaaaGreatBase
import Derived.WalkKit
namespace Go.Proofs.YtejeppjmlgfiaaaGreat
open Go.RowKit
set_option linter.unusedVariables false

theorem c_spec_l1In {n lo hi : Int} {w : World} : Calls Tryz.prog 117 #[.int .i64 n, .int .i64 lo, .int .i64 hi] w fun e w' => e = .returned (.bool (inB n lo hi)) ∧ w = w' := by
  go_enter Tryz.func117, Tryz.ntmps117
  go_wp2
  all_goals (go_ret; exact ⟨by first | (simp [inB, *]; done) | (simp [inB, *]; omega), rfl⟩)
theorem c_impl_within {n lo hi : Int} {w : World} : Calls Tryz.prog 113 #[.int .i64 n, .int .i64 lo, .int .i64 hi] w fun e w' => e = .returned (.bool (inB n lo hi)) ∧ w = w' := by
  go_enter Tryz.func113, Tryz.ntmps113
  go_wp2
  all_goals (go_ret; exact ⟨by first | (simp [inB, *]; done) | (simp [inB, *]; omega), rfl⟩)
theorem c_impl_isLabel {n : Int} {w : World} : Calls Tryz.prog 114 #[.int .i64 n] w fun e w' => e = .returned (.bool (inB n 0 65535)) ∧ w = w' := by
  go_enter Tryz.func114, Tryz.ntmps114
  go_wp2_with (go_at_call 113; refine (c_impl_within).mono ?_; rintro e w' ⟨rfl, rfl⟩)
  go_ret; exact ⟨rfl, rfl⟩
theorem c_spec_lbGood {n : Int} {w : World} : Calls Tryz.prog 118 #[.int .i64 n] w fun e w' => e = .returned (.bool (inB n 0 65535)) ∧ w = w' := by
  go_enter Tryz.func118, Tryz.ntmps118
  go_wp2_with (go_at_call 117; refine (c_spec_l1In).mono ?_; rintro e w' ⟨rfl, rfl⟩)
  go_ret; exact ⟨rfl, rfl⟩
def offB (n : Int) : Bool := inB n 0 65535 && (n % 2 == 1)
theorem c_impl_isOffset {n : Int} {w : World} : Calls Tryz.prog 81 #[.int .i64 n] w fun e w' => e = .returned (.bool (offB n)) ∧ w = w' := by
  rcases h : inB n 0 65535 with _ | _
  · go_enter Tryz.func81, Tryz.ntmps81
    go_wp2_with (go_at_call 114; refine (c_impl_isLabel).mono ?_; rintro e w' ⟨rfl, rfl⟩)
    all_goals (go_ret; exact ⟨by simp [offB, *], rfl⟩)
  · have hb := inB_bd h
    go_enter Tryz.func81, Tryz.ntmps81
    go_wp2_with (go_at_call 114; refine (c_impl_isLabel).mono ?_; rintro e w' ⟨rfl, rfl⟩)
    all_goals (go_ret; exact ⟨by simp [offB, *], rfl⟩)
theorem c_spec_lbOffset {n : Int} {w : World} : Calls Tryz.prog 134 #[.int .i64 n] w fun e w' => e = .returned (.bool (offB n)) ∧ w = w' := by
  rcases h : inB n 0 65535 with _ | _
  · go_enter Tryz.func134, Tryz.ntmps134
    go_wp2_with (go_at_call 118; refine (c_spec_lbGood).mono ?_; rintro e w' ⟨rfl, rfl⟩)
    all_goals (go_ret; exact ⟨by simp [offB, *], rfl⟩)
  · have hb := inB_bd h
    go_enter Tryz.func134, Tryz.ntmps134
    go_wp2_with (go_at_call 118; refine (c_spec_lbGood).mono ?_; rintro e w' ⟨rfl, rfl⟩)
    all_goals (go_ret; exact ⟨by simp [offB, *], rfl⟩)
theorem isBit_eq (n : Int) : (n == 0 || n == 1) = inB n 0 1 := by
  by_cases h0 : n = 0
  · subst h0; rfl
  · by_cases h1 : n = 1
    · subst h1; rfl
    · rcases Int.lt_or_le n 0 with h | h
      · rw [inB_lo h]; simp [h0, h1]
      · rw [inB_hi (by omega)]; simp [h0, h1]
theorem c_impl_isBit {n : Int} {w : World} : Calls Tryz.prog 141 #[.int .i64 n] w fun e w' => e = .returned (.bool (inB n 0 1)) ∧ w = w' := by
  have h := isBit_eq n
  by_cases h0 : n = 0
  · subst h0
    have h2 : inB 0 0 1 = true := rfl
    go_enter Tryz.func141, Tryz.ntmps141
    go_wp2
    go_ret; exact ⟨by simp [h2], rfl⟩
  · have h0' : (n == 0) = false := by simpa using h0
    rw [h0', Bool.false_or] at h
    rw [← h]
    clear h
    go_enter Tryz.func141, Tryz.ntmps141
    go_wp2
    all_goals (go_ret; exact ⟨by simp [*], rfl⟩)
theorem c_impl_isKey {n : Int} {w : World} : Calls Tryz.prog 79 #[.int .i64 n] w fun e w' => e = .returned (.bool (inB n 0 1000000000)) ∧ w = w' := by
  go_enter Tryz.func79, Tryz.ntmps79
  go_wp2_with (go_at_call 113; refine (c_impl_within).mono ?_; rintro e w' ⟨rfl, rfl⟩)
  go_ret; exact ⟨rfl, rfl⟩
theorem c_spec_shKey {n : Int} {w : World} : Calls Tryz.prog 91 #[.int .i64 n] w fun e w' => e = .returned (.bool (inB n 0 1000000000)) ∧ w = w' := by
  go_enter Tryz.func91, Tryz.ntmps91
  go_wp2_with (go_at_call 117; refine (c_spec_l1In).mono ?_; rintro e w' ⟨rfl, rfl⟩)
  go_ret; exact ⟨rfl, rfl⟩
end Go.Proofs.YtejeppjmlgfiaaaGreat
