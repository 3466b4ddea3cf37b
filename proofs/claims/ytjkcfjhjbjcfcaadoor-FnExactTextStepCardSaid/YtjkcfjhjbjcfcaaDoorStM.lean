/- Steps: the laws own copy. -/
import Derived.Test.YtjkcfjhjbjcfcaaDoorStL
import Derived.Test.YtjkcfjhjbjcfcaaDoorRow
namespace Go.Proofs.YtjkcfjhjbjcfcaaDoor
open Go.RowKit
set_option linter.unusedVariables false
set_option linter.unusedSimpArgs false

theorem infoEv : (Tryd.prog.info? 23).map (·.size) = some 7 := by kernel_rfl
theorem infoRu : (Tryd.prog.info? 26).map (·.size) = some 5 := by kernel_rfl
theorem infoSt : (Tryd.prog.info? 28).map (·.size) = some 14 := by kernel_rfl
theorem loadStep (w : World) (b : Nat) (cs : List Value) (h : w.rangeAt b 0 cs) (hl : cs.length = 14) : (loadVar 28 ⟨b, 0, none⟩).run Tryd.prog w = .ok (.agg cs.toArray) w :=
  run_loadVar_mid w b 0 _ cs _ h Tryd.underlying28 rfl (by rw [hl]; exact infoSt)

end Go.Proofs.YtjkcfjhjbjcfcaaDoor
