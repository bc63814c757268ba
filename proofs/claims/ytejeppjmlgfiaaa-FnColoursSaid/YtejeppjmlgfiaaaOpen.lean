/- What a walk is told of an argument that came in: integers fit their kind, slices of integers read as lists. No condition. -/
import Derived.Test.YtejeppjmlgfiaaaChecked
import Derived.WalkKit
import Derived.ProofKit
import Derived.OpenShut
import Derived.Carry
import Derived.Below
import Derived.Lib.SmallJoins
import Derived.Test.YtejeppjmlgfiaaaBase
namespace Go.Proofs.Ytejeppjmlgfiaaa.YtejeppjmlgfiaaaOpen
open Go.ChangeShapes Go.WideShapes Go.ChangeAt Go.RowKit
set_option linter.unusedVariables false

theorem laidOut : laidOutB Try.prog = true := by kernel_rfl

section
variable {H : Type} {enc : TypeId × Value → H} {W : World} {b0 : Nat} {base : Nat} {spare : Nat → Bool} {held : Bool} {r : Reach}

set_option maxRecDepth 100000 in
theorem in_int {v : Value} {d : DataW H} {p : List MemPlace} (hv : Value.okWide Try.prog W r b0 3 v) (h : DataW.Trod enc Try.prog W base spare held 3 v d p) :
    ∃ a : Int, v = .int .i64 a ∧ -9223372036854775808 ≤ a ∧ a ≤ 9223372036854775807 := by
  obtain ⟨a, e, _, _, hw⟩ := open_int Try.underlying3 hv h
  exact ⟨a, e, bounds_i64 hw⟩

end
end Go.Proofs.Ytejeppjmlgfiaaa.YtejeppjmlgfiaaaOpen
