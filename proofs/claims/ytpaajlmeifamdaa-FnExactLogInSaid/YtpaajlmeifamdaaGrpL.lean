/- The walks of the laws on groups and on powers: each Go text returns true for all arguments. No condition. -/
import Derived.Test.YtpaajlmeifamdaaGrpF
import Derived.Test.YtpaajlmeifamdaaFieldF
namespace Go.Proofs.Ytpaajlmeifamdaa
open Go.RowKit
set_option linter.unusedVariables false

theorem c_laws_toGroup {P Q G : Int} {w : World} : Calls Try.prog 16 #[.agg #[.int .i64 P, .int .i64 Q, .int .i64 G]] w fun e w' => e = .returned (.agg #[.int .i64 P, .int .i64 Q, .int .i64 G]) ∧ Below w.heap.size w w' := by
  go_enter Try.func16, Try.ntmps16
  go_wp2
  refine bodyPost_ret (v := .agg #[.int .i64 P, .int .i64 Q, .int .i64 G]) (by simp [results, Try.results16, go_sem]) rfl ⟨rfl, ?_⟩
  exact (((Below.refl _ _).alloc (Nat.le_refl _) _).alloc (by simp) _).alloc (by simp; omega) _
theorem w_FnExactIsGroup (w : World) {P Q G : Int}  :
    Calls Try.prog 3 #[.agg #[.int .i64 P, .int .i64 Q, .int .i64 G]] w fun e w' => e = .returned (.bool true) ∧ Below w.heap.size w w' := by
  go_enter Try.func3, Try.ntmps3
  go_wp2_with fail
  refine c_laws_toGroup.mono ?_
  rintro e w1 ⟨rfl, hb1⟩
  go_wp2_with fail
  refine c_spec_IsGroup.mono ?_
  rintro e w2 ⟨rfl, hb2⟩
  have h12 := hb1.trans (hb2.mono hb1.size)
  have hcell := box_cell h12
  go_wp2_with fail
  refine c_laws_toGroup.mono ?_
  rintro e w3 ⟨rfl, hb3⟩
  have h13 := h12.trans (hb3.mono h12.size)
  clear hcell
  go_wp2_with fail
  refine c_impl_IsGroup.mono ?_
  rintro e w4 ⟨rfl, hb4⟩
  go_wp2
  go_ret; exact ⟨rfl, lit_trans (h13.trans (hb4.mono h13.size))⟩
theorem w_FnExactIsElement (w : World) {P Q G a : Int} (ha : -9223372036854775808 ≤ a ∧ a ≤ 9223372036854775807) :
    Calls Try.prog 7 #[.agg #[.int .i64 P, .int .i64 Q, .int .i64 G], .int .i64 a] w fun e w' => e = .returned (.bool true) ∧ Below w.heap.size w w' := by
  go_enter Try.func7, Try.ntmps7
  go_wp2_with fail
  refine c_laws_toGroup.mono ?_
  rintro e w1 ⟨rfl, hb1⟩
  go_wp2_with fail
  refine c_spec_IsElement.mono ?_
  rintro e w2 ⟨rfl, hb2⟩
  have h12 := hb1.trans (hb2.mono hb1.size)
  have hcell := box_cell h12
  go_wp2_with fail
  refine c_laws_toGroup.mono ?_
  rintro e w3 ⟨rfl, hb3⟩
  have h13 := h12.trans (hb3.mono h12.size)
  clear hcell
  go_wp2_with fail
  refine c_impl_IsElement.mono ?_
  rintro e w4 ⟨rfl, hb4⟩
  go_wp2
  go_ret; exact ⟨rfl, lit_trans (h13.trans (hb4.mono h13.size))⟩
theorem w_FnExactElementFor (w : World) {P Q G n : Int} (hn : -9223372036854775808 ≤ n ∧ n ≤ 9223372036854775807) :
    Calls Try.prog 8 #[.agg #[.int .i64 P, .int .i64 Q, .int .i64 G], .int .i64 n] w fun e w' => e = .returned (.bool true) ∧ Below w.heap.size w w' := by
  go_enter Try.func8, Try.ntmps8
  go_wp2_with fail
  refine c_laws_toGroup.mono ?_
  rintro e w1 ⟨rfl, hb1⟩
  go_wp2_with fail
  refine c_spec_ElementFor.mono ?_
  rintro e w2 ⟨rfl, hb2⟩
  have h12 := hb1.trans (hb2.mono hb1.size)
  have hcell := box_cell h12
  go_wp2_with fail
  refine c_laws_toGroup.mono ?_
  rintro e w3 ⟨rfl, hb3⟩
  have h13 := h12.trans (hb3.mono h12.size)
  clear hcell
  go_wp2_with fail
  refine c_impl_ElementFor.mono ?_
  rintro e w4 ⟨rfl, hb4⟩
  go_wp2
  go_ret; exact ⟨rfl, lit_trans (h13.trans (hb4.mono h13.size))⟩
theorem w_FnExactProductIn (w : World) {P Q G a b : Int} (ha : -9223372036854775808 ≤ a ∧ a ≤ 9223372036854775807) (hb : -9223372036854775808 ≤ b ∧ b ≤ 9223372036854775807) :
    Calls Try.prog 9 #[.agg #[.int .i64 P, .int .i64 Q, .int .i64 G], .int .i64 a, .int .i64 b] w fun e w' => e = .returned (.bool true) ∧ Below w.heap.size w w' := by
  go_enter Try.func9, Try.ntmps9
  go_wp2_with fail
  refine c_laws_toGroup.mono ?_
  rintro e w1 ⟨rfl, hb1⟩
  go_wp2_with fail
  refine c_spec_ProductIn.mono ?_
  rintro e w2 ⟨rfl, hb2⟩
  have h12 := hb1.trans (hb2.mono hb1.size)
  have hcell := box_cell h12
  go_wp2_with fail
  refine c_laws_toGroup.mono ?_
  rintro e w3 ⟨rfl, hb3⟩
  have h13 := h12.trans (hb3.mono h12.size)
  clear hcell
  go_wp2_with fail
  refine c_impl_ProductIn.mono ?_
  rintro e w4 ⟨rfl, hb4⟩
  go_wp2
  go_ret; exact ⟨rfl, lit_trans (h13.trans (hb4.mono h13.size))⟩
theorem w_FnExactPowerIn (w : World) {P Q G a n : Int} (ha : -9223372036854775808 ≤ a ∧ a ≤ 9223372036854775807) (hn : -9223372036854775808 ≤ n ∧ n ≤ 9223372036854775807) :
    Calls Try.prog 10 #[.agg #[.int .i64 P, .int .i64 Q, .int .i64 G], .int .i64 a, .int .i64 n] w fun e w' => e = .returned (.bool true) ∧ Below w.heap.size w w' := by
  go_enter Try.func10, Try.ntmps10
  go_wp2_with fail
  refine c_laws_toGroup.mono ?_
  rintro e w1 ⟨rfl, hb1⟩
  go_wp2_with fail
  refine c_spec_PowerIn.mono ?_
  rintro e w2 ⟨rfl, hb2⟩
  have h12 := hb1.trans (hb2.mono hb1.size)
  have hcell := box_cell h12
  go_wp2_with fail
  refine c_laws_toGroup.mono ?_
  rintro e w3 ⟨rfl, hb3⟩
  have h13 := h12.trans (hb3.mono h12.size)
  clear hcell
  go_wp2_with fail
  refine c_impl_PowerIn.mono ?_
  rintro e w4 ⟨rfl, hb4⟩
  go_wp2
  go_ret; exact ⟨rfl, lit_trans (h13.trans (hb4.mono h13.size))⟩
theorem w_FnExactInverseIn (w : World) {P Q G a : Int} (ha : -9223372036854775808 ≤ a ∧ a ≤ 9223372036854775807) :
    Calls Try.prog 11 #[.agg #[.int .i64 P, .int .i64 Q, .int .i64 G], .int .i64 a] w fun e w' => e = .returned (.bool true) ∧ Below w.heap.size w w' := by
  go_enter Try.func11, Try.ntmps11
  go_wp2_with fail
  refine c_laws_toGroup.mono ?_
  rintro e w1 ⟨rfl, hb1⟩
  go_wp2_with fail
  refine c_spec_InverseIn.mono ?_
  rintro e w2 ⟨rfl, hb2⟩
  have h12 := hb1.trans (hb2.mono hb1.size)
  have hcell := box_cell h12
  go_wp2_with fail
  refine c_laws_toGroup.mono ?_
  rintro e w3 ⟨rfl, hb3⟩
  have h13 := h12.trans (hb3.mono h12.size)
  clear hcell
  go_wp2_with fail
  refine c_impl_InverseIn.mono ?_
  rintro e w4 ⟨rfl, hb4⟩
  go_wp2
  go_ret; exact ⟨rfl, lit_trans (h13.trans (hb4.mono h13.size))⟩
theorem w_FnExactOrderOf (w : World) {P Q G a : Int} (ha : -9223372036854775808 ≤ a ∧ a ≤ 9223372036854775807) :
    Calls Try.prog 12 #[.agg #[.int .i64 P, .int .i64 Q, .int .i64 G], .int .i64 a] w fun e w' => e = .returned (.bool true) ∧ Below w.heap.size w w' := by
  go_enter Try.func12, Try.ntmps12
  go_wp2_with fail
  refine c_laws_toGroup.mono ?_
  rintro e w1 ⟨rfl, hb1⟩
  go_wp2_with fail
  refine c_spec_OrderOf.mono ?_
  rintro e w2 ⟨rfl, hb2⟩
  have h12 := hb1.trans (hb2.mono hb1.size)
  have hcell := box_cell h12
  go_wp2_with fail
  refine c_laws_toGroup.mono ?_
  rintro e w3 ⟨rfl, hb3⟩
  have h13 := h12.trans (hb3.mono h12.size)
  clear hcell
  go_wp2_with fail
  refine c_impl_OrderOf.mono ?_
  rintro e w4 ⟨rfl, hb4⟩
  go_wp2
  go_ret; exact ⟨rfl, lit_trans (h13.trans (hb4.mono h13.size))⟩
theorem w_FnExactPowMod (w : World) {p a n : Int} (hp : -9223372036854775808 ≤ p ∧ p ≤ 9223372036854775807) (ha : -9223372036854775808 ≤ a ∧ a ≤ 9223372036854775807) (hn : -9223372036854775808 ≤ n ∧ n ≤ 9223372036854775807) :
    Calls Try.prog 4 #[.int .i64 p, .int .i64 a, .int .i64 n] w fun e w' => e = .returned (.bool true) ∧ Below w.heap.size w w' := by
  go_enter Try.func4, Try.ntmps4
  go_wp2_with (first | (go_at_call 18; refine (c_spec_PowMod).mono ?_; rintro e w1 ⟨rfl, hb1⟩) | (go_at_call 19; refine (c_impl_PowMod).mono ?_; rintro e w' ⟨rfl, rfl⟩))
  go_ret; exact ⟨rfl, hb1⟩
theorem w_FnExactInverseMod (w : World) {p a : Int} (hp : -9223372036854775808 ≤ p ∧ p ≤ 9223372036854775807) (ha : -9223372036854775808 ≤ a ∧ a ≤ 9223372036854775807) :
    Calls Try.prog 6 #[.int .i64 p, .int .i64 a] w fun e w' => e = .returned (.bool true) ∧ Below w.heap.size w w' := by
  go_enter Try.func6, Try.ntmps6
  go_wp2_with (first | (go_at_call 22; refine (c_spec_InverseMod).mono ?_; rintro e w1 ⟨rfl, hb1⟩) | (go_at_call 23; refine (c_impl_InverseMod).mono ?_; rintro e w' ⟨rfl, rfl⟩))
  go_ret; exact ⟨rfl, hb1⟩
theorem w_FnExactDivideMod (w : World) {p a b : Int} (hp : -9223372036854775808 ≤ p ∧ p ≤ 9223372036854775807) (ha : -9223372036854775808 ≤ a ∧ a ≤ 9223372036854775807) (hb : -9223372036854775808 ≤ b ∧ b ≤ 9223372036854775807) :
    Calls Try.prog 5 #[.int .i64 p, .int .i64 a, .int .i64 b] w fun e w' => e = .returned (.bool true) ∧ Below w.heap.size w w' := by
  go_enter Try.func5, Try.ntmps5
  go_wp2_with (first | (go_at_call 20; refine (c_spec_DivideMod).mono ?_; rintro e w1 ⟨rfl, hb1⟩) | (go_at_call 21; refine (c_impl_DivideMod).mono ?_; rintro e w' ⟨rfl, rfl⟩))
  go_ret; exact ⟨rfl, hb1⟩
end Go.Proofs.Ytpaajlmeifamdaa
