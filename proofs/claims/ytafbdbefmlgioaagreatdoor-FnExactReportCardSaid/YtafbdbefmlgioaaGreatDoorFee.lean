/- Fees. -/
import Derived.Test.YtafbdbefmlgioaaGreatDoorDiv64
import Derived.Test.YtafbdbefmlgioaaGreatDoorAdd
namespace Go.Proofs.YtafbdbefmlgioaaGreatDoor
open Go.RowKit
set_option linter.unusedVariables false
set_option linter.unusedSimpArgs false

def feeQ (p n : Int) (up : Bool) : Int := dvq n p 1000000 + if up = true ∧ 0 < dvr n p 1000000 then 1 else 0
def feeB (b p n : Int) (up : Bool) : Bool := dv n p 1000000 && decide (p ≤ 1000000) && addOk b (feeQ p n up)
def feeV (b p n : Int) (up : Bool) : Int := if feeB b p n up = true then b + feeQ p n up else 0
theorem fee_t {b p n : Int} {up : Bool} (h : feeB b p n up = true) : feeV b p n up = b + feeQ p n up := if_pos h
theorem fee_f {b p n : Int} {up : Bool} (h : feeB b p n up = false) : feeV b p n up = 0 := if_neg (by rw [h]; simp)
theorem feeQ_bd (p n : Int) (up : Bool) : 0 ≤ feeQ p n up ∧ feeQ p n up ≤ 1125899906842625 := by
  have := dvq_bd n p 1000000
  unfold feeQ
  split <;> omega
theorem feeV_bd (b p n : Int) (up : Bool) : 0 ≤ feeV b p n up ∧ feeV b p n up ≤ 1125899906842624 := by
  cases h : feeB b p n up with
  | false => rw [fee_f h]; omega
  | true =>
    rw [fee_t h]
    simp only [feeB, Bool.and_eq_true] at h
    have := addOk_t h.2
    omega
theorem feeB_1 {b p n : Int} {up : Bool} (h : dv n p 1000000 = false) : feeB b p n up = false := by simp [feeB, h]
theorem feeB_2 {b p n : Int} {up : Bool} (h : 1000000 < p) : feeB b p n up = false := by
  have : ¬ p ≤ 1000000 := by omega
  simp [feeB, this]
theorem feeB_3 {b p n : Int} {up : Bool} (h : dv n p 1000000 = true) (h2 : p ≤ 1000000) : feeB b p n up = addOk b (feeQ p n up) := by simp [feeB, h, h2]
theorem dv_f0 {n p : Int} (h : p < 0) : dv n p 1000000 = false := by
  have : amtOk p = false := decide_eq_false (by omega)
  simp [dv, dvIn, this]
theorem dv_f1 {n p : Int} (h : amtOk n = false) : dv n p 1000000 = false := by simp [dv, dvIn, h]
theorem feeB_4 {b p n : Int} {up : Bool} (h : amtOk b = false) : feeB b p n up = false := by simp [feeB, addOk, h]

end Go.Proofs.YtafbdbefmlgioaaGreatDoor
