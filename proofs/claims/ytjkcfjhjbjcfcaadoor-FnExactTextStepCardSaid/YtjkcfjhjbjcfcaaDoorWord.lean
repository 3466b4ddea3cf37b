/- Words: 1 to 8 lowercase letters. -/
import Derived.Test.YtjkcfjhjbjcfcaaDoorAmt
namespace Go.Proofs.YtjkcfjhjbjcfcaaDoor
open Go.RowKit
set_option linter.unusedVariables false
set_option linter.unusedSimpArgs false

def lowB (b : UInt8) : Bool := decide (97 ≤ (b.toNat : Int) ∧ (b.toNat : Int) ≤ 122)
def wordOk (l : List UInt8) : Bool := decide (1 ≤ l.length ∧ l.length ≤ 8) && l.all lowB
theorem all_snoc (l : List UInt8) (c : UInt8) (h : l.all lowB = true) (hc : 97 ≤ (c.toNat : Int) ∧ (c.toNat : Int) ≤ 122) : (l ++ [c]).all lowB = true := by
  simp [List.all_append, h, lowB, hc.1, hc.2] <;> omega
theorem all_bad (s : ByteArray) (k : Nat) (h : k < s.size) (hc : (s[k].toNat : Int) < 97 ∨ 122 < (s[k].toNat : Int)) : s.data.toList.all lowB = false := by
  rw [List.all_eq_false]
  refine ⟨s[k], ?_, ?_⟩
  · show s.data[k] ∈ _
    simp
  · unfold lowB
    exact Bool.eq_false_iff.1 (decide_eq_false (by omega))

end Go.Proofs.YtjkcfjhjbjcfcaaDoor
