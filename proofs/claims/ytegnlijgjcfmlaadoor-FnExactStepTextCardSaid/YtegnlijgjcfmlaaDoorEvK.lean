/- Which events are right, kind by kind. -/
import Derived.Test.YtegnlijgjcfmlaaDoorEvA
namespace Go.Proofs.YtegnlijgjcfmlaaDoor
open Go.RowKit
set_option linter.unusedVariables false
set_option linter.unusedSimpArgs false

theorem evOk_k1 (key ch too amt fee : Int) (yes : Bool) : evOk 1 key ch too amt fee yes = decide (key = 0 ∧ ch = 0 ∧ too = 0 ∧ (1 ≤ amt ∧ amt ≤ 1125899906842624) ∧ fee = 0 ∧ yes = false) := by
  rw [Bool.eq_iff_iff]
  cases yes <;> simp [evOk, hasF, fld, and_assoc] <;> omega

theorem evOk_k2 (key ch too amt fee : Int) (yes : Bool) : evOk 2 key ch too amt fee yes = decide (key = 0 ∧ (1 ≤ ch ∧ ch ≤ 99) ∧ too = 0 ∧ (1 ≤ amt ∧ amt ≤ 1125899906842624) ∧ (0 ≤ fee ∧ fee ≤ 1125899906842624) ∧ yes = false) := by
  rw [Bool.eq_iff_iff]
  cases yes <;> simp [evOk, hasF, fld, and_assoc] <;> omega

theorem evOk_k3 (key ch too amt fee : Int) (yes : Bool) : evOk 3 key ch too amt fee yes = decide (key = 0 ∧ (1 ≤ ch ∧ ch ≤ 99) ∧ too = 0 ∧ amt = 0 ∧ (0 ≤ fee ∧ fee ≤ 1125899906842624) ∧ yes = false) := by
  rw [Bool.eq_iff_iff]
  cases yes <;> simp [evOk, hasF, fld, and_assoc] <;> omega

theorem evOk_k4 (key ch too amt fee : Int) (yes : Bool) : evOk 4 key ch too amt fee yes = decide (key = 0 ∧ (1 ≤ ch ∧ ch ≤ 99) ∧ too = 0 ∧ (0 ≤ amt ∧ amt ≤ 1125899906842624) ∧ (0 ≤ fee ∧ fee ≤ 1000000) ∧ yes = false) := by
  rw [Bool.eq_iff_iff]
  cases yes <;> simp [evOk, hasF, fld, and_assoc] <;> omega

theorem evOk_k5 (key ch too amt fee : Int) (yes : Bool) : evOk 5 key ch too amt fee yes = decide ((1 ≤ key ∧ key ≤ 1000000) ∧ (1 ≤ ch ∧ ch ≤ 99) ∧ (1 ≤ too ∧ too ≤ 99) ∧ (1 ≤ amt ∧ amt ≤ 1125899906842624) ∧ fee = 0 ∧ ch ≠ too) := by
  rw [Bool.eq_iff_iff]
  cases yes <;> simp [evOk, hasF, fld, and_assoc] <;> omega

theorem evOk_k6 (key ch too amt fee : Int) (yes : Bool) : evOk 6 key ch too amt fee yes = decide ((1 ≤ key ∧ key ≤ 1000000) ∧ ch = 0 ∧ too = 0 ∧ amt = 0 ∧ fee = 0 ∧ yes = false) := by
  rw [Bool.eq_iff_iff]
  cases yes <;> simp [evOk, hasF, fld, and_assoc] <;> omega

theorem evOk_k7 (key ch too amt fee : Int) (yes : Bool) : evOk 7 key ch too amt fee yes = decide ((1 ≤ key ∧ key ≤ 1000000) ∧ ch = 0 ∧ too = 0 ∧ amt = 0 ∧ fee = 0 ∧ yes = false) := by
  rw [Bool.eq_iff_iff]
  cases yes <;> simp [evOk, hasF, fld, and_assoc] <;> omega

theorem evOk_k8 (key ch too amt fee : Int) (yes : Bool) : evOk 8 key ch too amt fee yes = decide (key = 0 ∧ ch = 0 ∧ too = 0 ∧ amt = 0 ∧ fee = 0 ∧ yes = false) := by
  rw [Bool.eq_iff_iff]
  cases yes <;> simp [evOk, hasF, fld, and_assoc] <;> omega

theorem evOk_k9 (key ch too amt fee : Int) (yes : Bool) : evOk 9 key ch too amt fee yes = decide ((1 ≤ key ∧ key ≤ 1000000) ∧ (1 ≤ ch ∧ ch ≤ 99) ∧ (1 ≤ too ∧ too ≤ 99) ∧ (1 ≤ amt ∧ amt ≤ 1125899906842624) ∧ (0 ≤ fee ∧ fee ≤ 1125899906842624) ∧ ch ≠ too ∧ yes = false) := by
  rw [Bool.eq_iff_iff]
  cases yes <;> simp [evOk, hasF, fld, and_assoc] <;> omega

theorem evOk_k10 (key ch too amt fee : Int) (yes : Bool) : evOk 10 key ch too amt fee yes = decide ((1 ≤ key ∧ key ≤ 1000000) ∧ ch = 0 ∧ too = 0 ∧ amt = 0 ∧ fee = 0 ∧ yes = false) := by
  rw [Bool.eq_iff_iff]
  cases yes <;> simp [evOk, hasF, fld, and_assoc] <;> omega

theorem evOk_k11 (key ch too amt fee : Int) (yes : Bool) : evOk 11 key ch too amt fee yes = decide ((1 ≤ key ∧ key ≤ 1000000) ∧ ch = 0 ∧ too = 0 ∧ amt = 0 ∧ fee = 0 ∧ yes = false) := by
  rw [Bool.eq_iff_iff]
  cases yes <;> simp [evOk, hasF, fld, and_assoc] <;> omega

end Go.Proofs.YtegnlijgjcfmlaaDoor
