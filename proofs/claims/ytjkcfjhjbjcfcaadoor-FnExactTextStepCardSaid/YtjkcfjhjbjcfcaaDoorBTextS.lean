/- The text of a bill, walked: the reference. -/
import Derived.Test.YtjkcfjhjbjcfcaaDoorBText
namespace Go.Proofs.YtjkcfjhjbjcfcaaDoor
open Go.RowKit
set_option linter.unusedVariables false
set_option linter.unusedSimpArgs false

end Go.Proofs.YtjkcfjhjbjcfcaaDoor
