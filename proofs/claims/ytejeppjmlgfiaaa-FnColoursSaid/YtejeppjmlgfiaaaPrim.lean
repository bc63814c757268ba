/- Contracts of powers and of primality. Conditions: the moduli are at most 3000, the numbers asked at most a million. -/
import Derived.Test.YtejeppjmlgfiaaaChecked
import Derived.Test.YtejeppjmlgfiaaaBits
import Derived.Test.YtejeppjmlgfiaaaBase
import Derived.Test.YtejeppjmlgfiaaaPowM
import Derived.Test.YtejeppjmlgfiaaaScal
import Derived.WalkKit
namespace Go.Proofs.Ytejeppjmlgfiaaa
open Go.RowKit
set_option linter.unusedVariables false

end Go.Proofs.Ytejeppjmlgfiaaa
