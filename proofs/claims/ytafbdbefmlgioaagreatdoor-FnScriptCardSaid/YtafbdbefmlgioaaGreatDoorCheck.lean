/- The checksum: both functions fold (31 n + b) mod 9973 over the bytes. -/
import Derived.Test.YtafbdbefmlgioaaGreatDoorBase
namespace Go.Proofs.YtafbdbefmlgioaaGreatDoor
open Go.RowKit
set_option linter.unusedVariables false
set_option linter.unusedSimpArgs false

def chk (l : List UInt8) : Int := l.foldl (fun n b => (31 * n + (b.toNat : Int)) % 9973) 0
theorem chk_snoc (l : List UInt8) (c : UInt8) : chk (l ++ [c]) = (31 * chk l + (c.toNat : Int)) % 9973 := by
  simp [chk, List.foldl_append]
theorem chk_fold_bd (l : List UInt8) (a : Int) (h : 0 ≤ a ∧ a ≤ 9972) : 0 ≤ l.foldl (fun n b => (31 * n + (b.toNat : Int)) % 9973) a ∧ l.foldl (fun n b => (31 * n + (b.toNat : Int)) % 9973) a ≤ 9972 := by
  induction l generalizing a with
  | nil => exact h
  | cons x l ih => exact ih _ (by show 0 ≤ (31 * a + (x.toNat : Int)) % 9973 ∧ (31 * a + (x.toNat : Int)) % 9973 ≤ 9972; omega)
theorem chk_bd (l : List UInt8) : 0 ≤ chk l ∧ chk l ≤ 9972 := chk_fold_bd l 0 (by omega)
