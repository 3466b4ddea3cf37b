/- Steps: the laws own copy. -/
import Derived.Test.YtafbdbefmlgioaaGreatDoorStT
import Derived.Test.YtafbdbefmlgioaaGreatDoorRow
namespace Go.Proofs.YtafbdbefmlgioaaGreatDoor
open Go.RowKit
set_option linter.unusedVariables false
set_option linter.unusedSimpArgs false

theorem infoEv : (Tryz.prog.info? 75).map (·.size) = some 7 := by kernel_rfl
theorem infoRu : (Tryz.prog.info? 77).map (·.size) = some 5 := by kernel_rfl
theorem infoSt : (Tryz.prog.info? 79).map (·.size) = some 14 := by kernel_rfl
theorem loadStep (w : World) (b : Nat) (cs : List Value) (h : w.rangeAt b 0 cs) (hl : cs.length = 14) : (loadVar 79 ⟨b, 0, none⟩).run Tryz.prog w = .ok (.agg cs.toArray) w :=
  run_loadVar_mid w b 0 _ cs _ h Tryz.underlying79 rfl (by rw [hl]; exact infoSt)

end Go.Proofs.YtafbdbefmlgioaaGreatDoor
