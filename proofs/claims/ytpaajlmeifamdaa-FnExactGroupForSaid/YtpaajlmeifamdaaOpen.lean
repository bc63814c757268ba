/- What a walk is told of an argument that came in: integers fit their kind, slices of integers read as lists. No condition. -/
import Derived.Test.YtpaajlmeifamdaaChecked
import Derived.WalkKit
import Derived.ProofKit
import Derived.OpenShut
import Derived.Carry
import Derived.Below
import Derived.Lib.SmallJoins
import Derived.Test.YtpaajlmeifamdaaBase
namespace Go.Proofs.Ytpaajlmeifamdaa.YtpaajlmeifamdaaOpen
open Go.ChangeShapes Go.WideShapes Go.ChangeAt Go.RowKit
set_option linter.unusedVariables false

theorem laidOut : laidOutB Try.prog = true := by kernel_rfl

section
variable {H : Type} {enc : TypeId × Value → H} {W : World} {b0 : Nat} {base : Nat} {spare : Nat → Bool} {held : Bool} {r : Reach}

theorem in_int {v : Value} {d : DataW H} {p : List MemPlace} (hv : Value.okWide Try.prog W r b0 3 v) (h : DataW.Trod enc Try.prog W base spare held 3 v d p) :
    ∃ a : Int, v = .int .i64 a ∧ -9223372036854775808 ≤ a ∧ a ≤ 9223372036854775807 := by
  obtain ⟨a, e, _, _, hw⟩ := open_int Try.underlying3 hv h
  exact ⟨a, e, bounds_i64 hw⟩

theorem in_p {v : Value} {d : DataW H} {p : List MemPlace} (hv : Value.okWide Try.prog W r b0 23 v) (h : DataW.Trod enc Try.prog W base spare held 23 v d p) :
    ∃ P Q G : Int, v = .agg #[.int .i64 P, .int .i64 Q, .int .i64 G] := by
  obtain ⟨c0, c1, c2, y0, y1, y2, m, rfl, rfl, rfl, hy0, hy1, hy2⟩ := Joins.open_agg3 Try.underlying23 (by kernel_rfl) (by kernel_rfl) hv h
  obtain ⟨P, e0, _, _⟩ := DataW.trod_int Try.underlying3 hy0
  obtain ⟨Q, e1, _, _⟩ := DataW.trod_int Try.underlying3 hy1
  obtain ⟨G, e2, _, _⟩ := DataW.trod_int Try.underlying3 hy2
  simp at e0 e1 e2
  subst e0 e1 e2
  exact ⟨P, Q, G, rfl⟩
end
end Go.Proofs.Ytpaajlmeifamdaa.YtpaajlmeifamdaaOpen
