/- Contracts of the functions on single numbers: ranges, labels, offsets, keys. They leave memory alone. No condition but the bounds that each names. -/
import Derived.Test.YtjijghfagaigbaaChecked
import Derived.Test.YtjijghfagaigbaaBits
import Derived.Test.YtjijghfagaigbaaBase
import Derived.WalkKit
namespace Go.Proofs.Ytjijghfagaigbaa
open Go.RowKit
set_option linter.unusedVariables false

theorem c_spec_l1In {n lo hi : Int} {w : World} : Calls Try.prog 26 #[.int .i64 n, .int .i64 lo, .int .i64 hi] w fun e w' => e = .returned (.bool (inB n lo hi)) ∧ w = w' := by
  go_enter Try.func26, Try.ntmps26
  go_wp2
  all_goals (go_ret; exact ⟨by first | (simp [inB, *]; done) | (simp [inB, *]; omega), rfl⟩)
theorem c_impl_within {n lo hi : Int} {w : World} : Calls Try.prog 19 #[.int .i64 n, .int .i64 lo, .int .i64 hi] w fun e w' => e = .returned (.bool (inB n lo hi)) ∧ w = w' := by
  go_enter Try.func19, Try.ntmps19
  go_wp2
  all_goals (go_ret; exact ⟨by first | (simp [inB, *]; done) | (simp [inB, *]; omega), rfl⟩)
def offB (n : Int) : Bool := inB n 0 65535 && (n % 2 == 1)
theorem isBit_eq (n : Int) : (n == 0 || n == 1) = inB n 0 1 := by
  by_cases h0 : n = 0
  · subst h0; rfl
  · by_cases h1 : n = 1
    · subst h1; rfl
    · rcases Int.lt_or_le n 0 with h | h
      · rw [inB_lo h]; simp [h0, h1]
      · rw [inB_hi (by omega)]; simp [h0, h1]
end Go.Proofs.Ytjijghfagaigbaa
