/- Estimates: the tests. -/
import Derived.Test.YtfijgegegfpfkaaAmt
namespace Go.Proofs.Ytfijgegegfpfkaa
open Go.RowKit
set_option linter.unusedVariables false
set_option linter.unusedSimpArgs false

def guessOk (f t l p : Int) : Bool := chanOk f && chanOk t && decide (f ≠ t) && amtOk l && amtOk p && decide (l ≤ p)
theorem guessOk_iff (f t l p : Int) : guessOk f t l p = decide ((1 ≤ f ∧ f ≤ 99) ∧ (1 ≤ t ∧ t ≤ 99) ∧ f ≠ t ∧ (0 ≤ l ∧ l ≤ 1125899906842624) ∧ (0 ≤ p ∧ p ≤ 1125899906842624) ∧ l ≤ p) := by
  simp [guessOk, amtOk, chanOk, inB, Bool.and_assoc]
def canG (f t l p n : Int) : Bool := guessOk f t l p && inB n 1 1125899906842624
theorem canG_t {f t l p n : Int} (h : canG f t l p n = true) : ((1 ≤ f ∧ f ≤ 99) ∧ (1 ≤ t ∧ t ≤ 99) ∧ f ≠ t ∧ (0 ≤ l ∧ l ≤ 1125899906842624) ∧ (0 ≤ p ∧ p ≤ 1125899906842624) ∧ l ≤ p) ∧ 1 ≤ n ∧ n ≤ 1125899906842624 := by
  simpa [canG, guessOk_iff, inB] using h

def wentL (l p n : Int) : Int := max (l - n) 0
def wentP (l p n : Int) : Int := max (p - n) 0
def stuckP (l p n : Int) : Int := min p (n - 1)
def stuckL (l p n : Int) : Int := min l (stuckP l p n)
def heardL (l p n : Int) : Int := max l n
def heardP (l p n : Int) : Int := max p (heardL l p n)

set_option maxHeartbeats 400000 in
theorem l16Min_spec (a b : Int) (w : World) : Calls Try.prog 20 #[.int .i64 a, .int .i64 b] w fun e w' => e = .returned (.int .i64 (min a b)) ∧ w = w' := by
  go_enter Try.func20, Try.ntmps20
  go_wp2
  all_goals
    go_ret
    exact ⟨ret_int (by omega), rfl⟩

end Go.Proofs.Ytfijgegegfpfkaa
