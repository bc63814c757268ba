/- The walk of the law on exponents: the Go text returns true for all arguments. No condition. -/
import Derived.Test.YtpaajlmeifamdaaLogIn
import Derived.Test.YtpaajlmeifamdaaGrpL
namespace Go.Proofs.Ytpaajlmeifamdaa
open Go.RowKit
set_option linter.unusedVariables false

theorem w_FnExactLogIn (w : World) {P Q G a b : Int} (ha : -9223372036854775808 ≤ a ∧ a ≤ 9223372036854775807) (hb : -9223372036854775808 ≤ b ∧ b ≤ 9223372036854775807) :
    Calls Try.prog 13 #[.agg #[.int .i64 P, .int .i64 Q, .int .i64 G], .int .i64 a, .int .i64 b] w fun e w' => e = .returned (.bool true) ∧ Below w.heap.size w w' := by
  go_enter Try.func13, Try.ntmps13
  go_wp2_with fail
  refine c_laws_toGroup.mono ?_
  rintro e w1 ⟨rfl, hb1⟩
  go_wp2_with fail
  refine c_spec_LogIn.mono ?_
  rintro e w2 ⟨rfl, hb2⟩
  have h12 := hb1.trans (hb2.mono hb1.size)
  have hcell := box_cell h12
  go_wp2_with fail
  refine c_laws_toGroup.mono ?_
  rintro e w3 ⟨rfl, hb3⟩
  have h13 := h12.trans (hb3.mono h12.size)
  clear hcell
  go_wp2_with fail
  refine c_impl_LogIn.mono ?_
  rintro e w4 ⟨rfl, hb4⟩
  go_wp2
  go_ret; exact ⟨rfl, lit_trans (h13.trans (hb4.mono h13.size))⟩
end Go.Proofs.Ytpaajlmeifamdaa
