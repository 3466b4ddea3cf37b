/- Sums of amounts. -/
import Derived.Test.YtfijgegegfpfkaaAmt
namespace Go.Proofs.Ytfijgegegfpfkaa
open Go.RowKit
set_option linter.unusedVariables false
set_option linter.unusedSimpArgs false

def addOk (a b : Int) : Bool := amtOk a && amtOk b && amtOk (a + b)
theorem addOk_iff (a b : Int) : addOk a b = decide ((0 ≤ a ∧ a ≤ 1125899906842624) ∧ (0 ≤ b ∧ b ≤ 1125899906842624) ∧ 0 ≤ a + b ∧ a + b ≤ 1125899906842624) := by simp [addOk, amtOk, inB, Bool.and_assoc]
theorem addOk_t {a b : Int} (h : addOk a b = true) : 0 ≤ a ∧ a ≤ 1125899906842624 ∧ 0 ≤ b ∧ b ≤ 1125899906842624 ∧ a + b ≤ 1125899906842624 := by rw [addOk_iff] at h; have := of_decide_eq_true h; omega
theorem addOk_f {a b : Int} (h : ¬ addOk a b = true) : a < 0 ∨ 1125899906842624 < a ∨ b < 0 ∨ 1125899906842624 < b ∨ 1125899906842624 < a + b := by simp only [addOk_iff, decide_eq_true_eq] at h; omega

set_option maxHeartbeats 400000 in
theorem amt_impl (n : Int) (w : World) : Calls Try.prog 30 #[.int .i64 n] w fun e w' => e = .returned (if amtOk n = true then .tuple #[.int .i64 n, .bool true] else .tuple #[.int .i64 0, .bool false]) ∧ w = w' := by
  by_cases h : amtOk n = true
  · rw [if_pos h]
    go_enter Try.func30, Try.ntmps30
    go_wp2_with (((go_at_call 29; refine (amtOk_impl _ _).mono ?_); rintro e w1 ⟨rfl, rfl⟩))
    go_ret2
    exact ⟨rfl, rfl⟩
  · rw [if_neg h]
    go_enter Try.func30, Try.ntmps30
    go_wp2_with (((go_at_call 29; refine (amtOk_impl _ _).mono ?_); rintro e w1 ⟨rfl, rfl⟩))
    go_ret2
    exact ⟨rfl, rfl⟩

end Go.Proofs.Ytfijgegegfpfkaa
