/- Amounts: the small tests. -/
import Derived.Test.YtfijgegegfpfkaaGrew
namespace Go.Proofs.Ytfijgegegfpfkaa
open Go.RowKit
set_option linter.unusedVariables false
set_option linter.unusedSimpArgs false

def inB (n lo hi : Int) : Bool := decide (lo ≤ n ∧ n ≤ hi)
def amtOk (n : Int) : Bool := inB n 0 1125899906842624
def timeOk (n : Int) : Bool := inB n 0 1000000000
def chanOk (n : Int) : Bool := inB n 1 99
def keyOk (n : Int) : Bool := inB n 1 1000000
theorem inB_t {n lo hi : Int} (h : inB n lo hi = true) : lo ≤ n ∧ n ≤ hi := by simpa [inB] using h
theorem inB_f {n lo hi : Int} (h : inB n lo hi = false) : n < lo ∨ hi < n := by simp [inB] at h; omega
theorem amtOk_t {n : Int} (h : amtOk n = true) : 0 ≤ n ∧ n ≤ 1125899906842624 := inB_t h
theorem amtOk_f {n : Int} (h : amtOk n = false) : n < 0 ∨ 1125899906842624 < n := inB_f h
theorem amtOk_iff (n : Int) : amtOk n = decide (0 ≤ n ∧ n ≤ 1125899906842624) := rfl
theorem timeOk_iff (n : Int) : timeOk n = decide (0 ≤ n ∧ n ≤ 1000000000) := rfl
theorem chanOk_iff (n : Int) : chanOk n = decide (1 ≤ n ∧ n ≤ 99) := rfl
theorem keyOk_iff (n : Int) : keyOk n = decide (1 ≤ n ∧ n ≤ 1000000) := rfl

set_option maxHeartbeats 400000 in
theorem in_impl (n lo hi : Int) (w : World) : Calls Try.prog 37 #[.int .i64 n, .int .i64 lo, .int .i64 hi] w fun e w' => e = .returned (.bool (inB n lo hi)) ∧ w = w' := by
  go_enter Try.func37, Try.ntmps37
  go_wp2
  all_goals
    go_ret
    exact ⟨ret_bool (by simp [inB] <;> omega), rfl⟩

set_option maxHeartbeats 400000 in
theorem amtOk_impl (n : Int) (w : World) : Calls Try.prog 29 #[.int .i64 n] w fun e w' => e = .returned (.bool (amtOk n)) ∧ w = w' := by
  go_enter Try.func29, Try.ntmps29
  go_wp2_with (((go_at_call 37; refine (in_impl _ _ _ _).mono ?_); rintro e w1 ⟨rfl, rfl⟩))
  all_goals
    go_ret
    exact ⟨ret_bool (by simp [amtOk, inB] <;> omega), rfl⟩

set_option maxHeartbeats 400000 in
theorem amtOk_spec (n : Int) (w : World) : Calls Try.prog 17 #[.int .i64 n] w fun e w' => e = .returned (.bool (amtOk n)) ∧ w = w' := by
  go_enter Try.func17, Try.ntmps17
  go_wp2_with (fail)
  all_goals
    go_ret
    exact ⟨ret_bool (by simp [amtOk, inB] <;> omega), rfl⟩

end Go.Proofs.Ytfijgegegfpfkaa
