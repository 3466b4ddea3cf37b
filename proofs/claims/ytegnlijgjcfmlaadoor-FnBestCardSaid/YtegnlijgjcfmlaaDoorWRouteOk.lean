/- The law on valid routes walked. -/
import Derived.Test.YtegnlijgjcfmlaaDoorRouteS
namespace Go.Proofs.YtegnlijgjcfmlaaDoor
open Go.RowKit
set_option linter.unusedVariables false
set_option linter.unusedSimpArgs false

end Go.Proofs.YtegnlijgjcfmlaaDoor
