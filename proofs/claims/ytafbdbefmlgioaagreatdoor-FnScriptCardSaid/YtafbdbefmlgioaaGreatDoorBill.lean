/- Bills: the test. -/
import Derived.Test.YtafbdbefmlgioaaGreatDoorWords
namespace Go.Proofs.YtafbdbefmlgioaaGreatDoor
open Go.RowKit
set_option linter.unusedVariables false
set_option linter.unusedSimpArgs false

def noteOk (s : ByteArray) : Bool := s.data.toList.isEmpty || wordOk s.data.toList
def billOk (i p a m d : Int) (s : ByteArray) : Bool := (keyOk i && chanOk p && inB a 1 1125899906842624 && timeOk m && timeOk d && decide (m < d)) && noteOk s

end Go.Proofs.YtafbdbefmlgioaaGreatDoor
