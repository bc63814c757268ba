/- The walks of the laws on offsets, zero labels and half ciphers: each Go text returns true for all integers. No condition. -/
import Derived.Test.YtacacaaappoliaaHalf
namespace Go.Proofs.Ytacacaaappoliaa
open Go.RowKit
set_option linter.unusedVariables false

theorem w_FnExactOffsetFrom (w : World) {k : Int} (hk : -9223372036854775808 ≤ k ∧ k ≤ 9223372036854775807) :
    Calls Try.prog 8 #[.int .i64 k] w fun e w' => e = .returned (.bool true) ∧ Below w.heap.size w w' := by
  go_enter Try.func8, Try.ntmps8
  go_wp2_with (first | (go_at_call 23; refine (c_spec_OffsetFrom).mono ?_; rintro e w1 ⟨rfl, hb1⟩) | (go_at_call 24; refine (c_impl_OffsetFrom).mono ?_; rintro e w2 ⟨rfl, hb2⟩))
  go_ret; exact ⟨rfl, hb1.trans (hb2.mono hb1.size)⟩

theorem w_FnExactZeroLabel (w : World) {k n : Int} (hk : -9223372036854775808 ≤ k ∧ k ≤ 9223372036854775807) (hn : -9223372036854775808 ≤ n ∧ n ≤ 9223372036854775807) :
    Calls Try.prog 9 #[.int .i64 k, .int .i64 n] w fun e w' => e = .returned (.bool true) ∧ Below w.heap.size w w' := by
  go_enter Try.func9, Try.ntmps9
  go_wp2_with (first | (go_at_call 25; refine (c_spec_ZeroLabel).mono ?_; rintro e w1 ⟨rfl, hb1⟩) | (go_at_call 26; refine (c_impl_ZeroLabel).mono ?_; rintro e w2 ⟨rfl, hb2⟩))
  go_ret; exact ⟨rfl, hb1.trans (hb2.mono hb1.size)⟩

theorem w_FnExactHalfCipher (w : World) {n l s : Int} (hn : -9223372036854775808 ≤ n ∧ n ≤ 9223372036854775807) (hl : -9223372036854775808 ≤ l ∧ l ≤ 9223372036854775807) (hs : -9223372036854775808 ≤ s ∧ s ≤ 9223372036854775807) :
    Calls Try.prog 10 #[.int .i64 n, .int .i64 l, .int .i64 s] w fun e w' => e = .returned (.bool true) ∧ Below w.heap.size w w' := by
  go_enter Try.func10, Try.ntmps10
  go_wp2_with (first | (go_at_call 27; refine (c_spec_HalfCipher).mono ?_; rintro e w1 ⟨rfl, hb1⟩) | (go_at_call 28; refine (c_impl_HalfCipher).mono ?_; rintro e w2 ⟨rfl, hb2⟩))
  go_ret; exact ⟨rfl, hb1.trans (hb2.mono hb1.size)⟩

end Go.Proofs.Ytacacaaappoliaa
