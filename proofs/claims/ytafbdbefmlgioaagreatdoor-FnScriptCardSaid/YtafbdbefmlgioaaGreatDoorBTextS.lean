/- The text of a bill, walked: the reference. -/
import Derived.Test.YtafbdbefmlgioaaGreatDoorBText
namespace Go.Proofs.YtafbdbefmlgioaaGreatDoor
open Go.RowKit
set_option linter.unusedVariables false
set_option linter.unusedSimpArgs false

end Go.Proofs.YtafbdbefmlgioaaGreatDoor
