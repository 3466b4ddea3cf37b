/- Amounts: the small tests. -/
import Derived.Test.YtafbdbefmlgioaaGreatDoorGrew
namespace Go.Proofs.YtafbdbefmlgioaaGreatDoor
open Go.RowKit
set_option linter.unusedVariables false
set_option linter.unusedSimpArgs false

def inB (n lo hi : Int) : Bool := decide (lo ≤ n ∧ n ≤ hi)
def amtOk (n : Int) : Bool := inB n 0 1125899906842624
def timeOk (n : Int) : Bool := inB n 0 1000000000
def chanOk (n : Int) : Bool := inB n 1 99
def keyOk (n : Int) : Bool := inB n 1 1000000
theorem inB_t {n lo hi : Int} (h : inB n lo hi = true) : lo ≤ n ∧ n ≤ hi := by simpa [inB] using h
theorem inB_f {n lo hi : Int} (h : inB n lo hi = false) : n < lo ∨ hi < n := by simp [inB] at h; omega
theorem amtOk_t {n : Int} (h : amtOk n = true) : 0 ≤ n ∧ n ≤ 1125899906842624 := inB_t h
theorem amtOk_f {n : Int} (h : amtOk n = false) : n < 0 ∨ 1125899906842624 < n := inB_f h
theorem amtOk_iff (n : Int) : amtOk n = decide (0 ≤ n ∧ n ≤ 1125899906842624) := rfl
theorem timeOk_iff (n : Int) : timeOk n = decide (0 ≤ n ∧ n ≤ 1000000000) := rfl
theorem chanOk_iff (n : Int) : chanOk n = decide (1 ≤ n ∧ n ≤ 99) := rfl
theorem keyOk_iff (n : Int) : keyOk n = decide (1 ≤ n ∧ n ≤ 1000000) := rfl

set_option maxHeartbeats 400000 in
theorem in_impl (n lo hi : Int) (w : World) : Calls Tryz.prog 85 #[.int .i64 n, .int .i64 lo, .int .i64 hi] w fun e w' => e = .returned (.bool (inB n lo hi)) ∧ w = w' := by
  go_enter Tryz.func85, Tryz.ntmps85
  go_wp2
  all_goals
    go_ret
    exact ⟨ret_bool (by simp [inB] <;> omega), rfl⟩

set_option maxHeartbeats 400000 in
theorem amtOk_impl (n : Int) (w : World) : Calls Tryz.prog 47 #[.int .i64 n] w fun e w' => e = .returned (.bool (amtOk n)) ∧ w = w' := by
  go_enter Tryz.func47, Tryz.ntmps47
  go_wp2_with (((go_at_call 85; refine (in_impl _ _ _ _).mono ?_); rintro e w1 ⟨rfl, rfl⟩))
  all_goals
    go_ret
    exact ⟨ret_bool (by simp [amtOk, inB] <;> omega), rfl⟩

set_option maxHeartbeats 400000 in
theorem amtOk_spec (n : Int) (w : World) : Calls Tryz.prog 117 #[.int .i64 n] w fun e w' => e = .returned (.bool (amtOk n)) ∧ w = w' := by
  go_enter Tryz.func117, Tryz.ntmps117
  go_wp2_with (fail)
  all_goals
    go_ret
    exact ⟨ret_bool (by simp [amtOk, inB] <;> omega), rfl⟩

set_option maxHeartbeats 400000 in
theorem isChan_impl (n : Int) (w : World) : Calls Tryz.prog 124 #[.int .i64 n] w fun e w' => e = .returned (.bool (chanOk n)) ∧ w = w' := by
  go_enter Tryz.func124, Tryz.ntmps124
  go_wp2_with (((go_at_call 85; refine (in_impl _ _ _ _).mono ?_); rintro e w1 ⟨rfl, rfl⟩))
  all_goals
    go_ret
    exact ⟨ret_bool (by simp [chanOk, inB] <;> omega), rfl⟩

set_option maxHeartbeats 400000 in
theorem isKey_impl (n : Int) (w : World) : Calls Tryz.prog 125 #[.int .i64 n] w fun e w' => e = .returned (.bool (keyOk n)) ∧ w = w' := by
  go_enter Tryz.func125, Tryz.ntmps125
  go_wp2_with (((go_at_call 85; refine (in_impl _ _ _ _).mono ?_); rintro e w1 ⟨rfl, rfl⟩))
  all_goals
    go_ret
    exact ⟨ret_bool (by simp [keyOk, inB] <;> omega), rfl⟩

def addOk (a b : Int) : Bool := amtOk a && amtOk b && amtOk (a + b)
theorem addOk_iff (a b : Int) : addOk a b = decide ((0 ≤ a ∧ a ≤ 1125899906842624) ∧ (0 ≤ b ∧ b ≤ 1125899906842624) ∧ 0 ≤ a + b ∧ a + b ≤ 1125899906842624) := by simp [addOk, amtOk, inB, Bool.and_assoc]
theorem addOk_t {a b : Int} (h : addOk a b = true) : 0 ≤ a ∧ a ≤ 1125899906842624 ∧ 0 ≤ b ∧ b ≤ 1125899906842624 ∧ a + b ≤ 1125899906842624 := by rw [addOk_iff] at h; have := of_decide_eq_true h; omega
theorem addOk_f {a b : Int} (h : ¬ addOk a b = true) : a < 0 ∨ 1125899906842624 < a ∨ b < 0 ∨ 1125899906842624 < b ∨ 1125899906842624 < a + b := by simp only [addOk_iff, decide_eq_true_eq] at h; omega

end Go.Proofs.YtafbdbefmlgioaaGreatDoor
