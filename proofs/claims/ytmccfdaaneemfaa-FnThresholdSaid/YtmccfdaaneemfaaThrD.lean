/- Contracts of shares without one of them and of the only wrong share. Conditions: few shares, elements of the field. -/
import Derived.Test.YtmccfdaaneemfaaThrC
import Derived.Test.YtmccfdaaneemfaaAppR
import Derived.Test.YtmccfdaaneemfaaDig3
namespace Go.Proofs.Ytmccfdaaneemfaa
open Go.RowKit
set_option linter.unusedVariables false

end Go.Proofs.Ytmccfdaaneemfaa
