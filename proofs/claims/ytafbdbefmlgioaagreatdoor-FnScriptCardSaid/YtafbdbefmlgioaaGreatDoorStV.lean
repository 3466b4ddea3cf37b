/- Steps: what they hold. -/
import Derived.Test.YtafbdbefmlgioaaGreatDoorSEvent
namespace Go.Proofs.YtafbdbefmlgioaaGreatDoor
open Go.RowKit
set_option linter.unusedVariables false
set_option linter.unusedSimpArgs false

structure St where
  kind : Int
  ev : Ev
  keep : List Int
  lo : Int
  hi : Int
  step : Int
  mn : Int
  mx : Int
def Ev.zero : Ev := ⟨0, 0, 0, 0, 0, 0, false⟩
def St.zero : St := ⟨0, Ev.zero, [], 0, 0, 0, 0, 0⟩

end Go.Proofs.YtafbdbefmlgioaaGreatDoor
