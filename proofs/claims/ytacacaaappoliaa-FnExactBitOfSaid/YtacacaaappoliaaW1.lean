/- The walks of the laws on single labels: each Go text returns true for all integers. No condition. -/
import Derived.Test.YtacacaaappoliaaLabF
namespace Go.Proofs.Ytacacaaappoliaa
open Go.RowKit
set_option linter.unusedVariables false

theorem w_FnExactColourOf (w : World) {l : Int} (hl : -9223372036854775808 ≤ l ∧ l ≤ 9223372036854775807) :
    Calls Try.prog 3 #[.int .i64 l] w fun e w' => e = .returned (.bool true) ∧ Below w.heap.size w w' := by
  go_enter Try.func3, Try.ntmps3
  go_wp2_with (first | (go_at_call 13; refine (c_spec_ColourOf).mono ?_; rintro e w' ⟨rfl, rfl⟩) | (go_at_call 14; refine (c_impl_ColourOf).mono ?_; rintro e w' ⟨rfl, rfl⟩))
  go_ret; exact ⟨rfl, Below.refl _ _⟩

theorem w_FnExactFreeXor (w : World) {x y : Int} (hx : -9223372036854775808 ≤ x ∧ x ≤ 9223372036854775807) (hy : -9223372036854775808 ≤ y ∧ y ≤ 9223372036854775807) :
    Calls Try.prog 4 #[.int .i64 x, .int .i64 y] w fun e w' => e = .returned (.bool true) ∧ Below w.heap.size w w' := by
  go_enter Try.func4, Try.ntmps4
  go_wp2_with (first | (go_at_call 15; refine (c_spec_FreeXor).mono ?_; rintro e w' ⟨rfl, rfl⟩) | (go_at_call 16; refine (c_impl_FreeXor).mono ?_; rintro e w' ⟨rfl, rfl⟩))
  go_ret; exact ⟨rfl, Below.refl _ _⟩

theorem w_FnExactLabelOf (w : World) {z r b : Int} (hz : -9223372036854775808 ≤ z ∧ z ≤ 9223372036854775807) (hr : -9223372036854775808 ≤ r ∧ r ≤ 9223372036854775807) (hb : -9223372036854775808 ≤ b ∧ b ≤ 9223372036854775807) :
    Calls Try.prog 5 #[.int .i64 z, .int .i64 r, .int .i64 b] w fun e w' => e = .returned (.bool true) ∧ Below w.heap.size w w' := by
  go_enter Try.func5, Try.ntmps5
  go_wp2_with (first | (go_at_call 17; refine (c_spec_LabelOf).mono ?_; rintro e w' ⟨rfl, rfl⟩) | (go_at_call 18; refine (c_impl_LabelOf).mono ?_; rintro e w' ⟨rfl, rfl⟩))
  go_ret; exact ⟨rfl, Below.refl _ _⟩

theorem w_FnExactFreeNot (w : World) {z r : Int} (hz : -9223372036854775808 ≤ z ∧ z ≤ 9223372036854775807) (hr : -9223372036854775808 ≤ r ∧ r ≤ 9223372036854775807) :
    Calls Try.prog 6 #[.int .i64 z, .int .i64 r] w fun e w' => e = .returned (.bool true) ∧ Below w.heap.size w w' := by
  go_enter Try.func6, Try.ntmps6
  go_wp2_with (first | (go_at_call 19; refine (c_spec_FreeNot).mono ?_; rintro e w' ⟨rfl, rfl⟩) | (go_at_call 20; refine (c_impl_FreeNot).mono ?_; rintro e w' ⟨rfl, rfl⟩))
  go_ret; exact ⟨rfl, Below.refl _ _⟩

theorem w_FnExactBitOf (w : World) {z r l : Int} (hz : -9223372036854775808 ≤ z ∧ z ≤ 9223372036854775807) (hr : -9223372036854775808 ≤ r ∧ r ≤ 9223372036854775807) (hl : -9223372036854775808 ≤ l ∧ l ≤ 9223372036854775807) :
    Calls Try.prog 7 #[.int .i64 z, .int .i64 r, .int .i64 l] w fun e w' => e = .returned (.bool true) ∧ Below w.heap.size w w' := by
  go_enter Try.func7, Try.ntmps7
  go_wp2_with (first | (go_at_call 21; refine (c_spec_BitOf).mono ?_; rintro e w' ⟨rfl, rfl⟩) | (go_at_call 22; refine (c_impl_BitOf).mono ?_; rintro e w' ⟨rfl, rfl⟩))
  go_ret; exact ⟨rfl, Below.refl _ _⟩

end Go.Proofs.Ytacacaaappoliaa
