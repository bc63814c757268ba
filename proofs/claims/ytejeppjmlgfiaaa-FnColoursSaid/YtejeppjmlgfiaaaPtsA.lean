/- Contracts of values of polynomials, of lists of elements, of lists of different numbers and of points. Conditions: the lists are short, the numbers small. -/
import Derived.Test.YtejeppjmlgfiaaaOwnK
import Derived.Test.YtejeppjmlgfiaaaField
import Derived.Test.YtejeppjmlgfiaaaPoly2
import Derived.Test.YtejeppjmlgfiaaaMet
namespace Go.Proofs.Ytejeppjmlgfiaaa
open Go.RowKit
set_option linter.unusedVariables false


/-! ### lists of elements -/

/-! ### different numbers -/
end Go.Proofs.Ytejeppjmlgfiaaa
