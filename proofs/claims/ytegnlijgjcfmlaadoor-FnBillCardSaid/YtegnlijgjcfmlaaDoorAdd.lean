/- Sums of amounts. -/
import Derived.Test.YtegnlijgjcfmlaaDoorAmt
namespace Go.Proofs.YtegnlijgjcfmlaaDoor
open Go.RowKit
set_option linter.unusedVariables false
set_option linter.unusedSimpArgs false

def addOk (a b : Int) : Bool := amtOk a && amtOk b && amtOk (a + b)
theorem addOk_iff (a b : Int) : addOk a b = decide ((0 ≤ a ∧ a ≤ 1125899906842624) ∧ (0 ≤ b ∧ b ≤ 1125899906842624) ∧ 0 ≤ a + b ∧ a + b ≤ 1125899906842624) := by simp [addOk, amtOk, inB, Bool.and_assoc]
theorem addOk_t {a b : Int} (h : addOk a b = true) : 0 ≤ a ∧ a ≤ 1125899906842624 ∧ 0 ≤ b ∧ b ≤ 1125899906842624 ∧ a + b ≤ 1125899906842624 := by rw [addOk_iff] at h; have := of_decide_eq_true h; omega
theorem addOk_f {a b : Int} (h : ¬ addOk a b = true) : a < 0 ∨ 1125899906842624 < a ∨ b < 0 ∨ 1125899906842624 < b ∨ 1125899906842624 < a + b := by simp only [addOk_iff, decide_eq_true_eq] at h; omega

set_option maxHeartbeats 400000 in
theorem amt_impl (n : Int) (w : World) : Calls Tryd.prog 62 #[.int .i64 n] w fun e w' => e = .returned (if amtOk n = true then .tuple #[.int .i64 n, .bool true] else .tuple #[.int .i64 0, .bool false]) ∧ w = w' := by
  by_cases h : amtOk n = true
  · rw [if_pos h]
    go_enter Tryd.func62, Tryd.ntmps62
    go_wp2_with (((go_at_call 61; refine (amtOk_impl _ _).mono ?_); rintro e w1 ⟨rfl, rfl⟩))
    go_ret2
    exact ⟨rfl, rfl⟩
  · rw [if_neg h]
    go_enter Tryd.func62, Tryd.ntmps62
    go_wp2_with (((go_at_call 61; refine (amtOk_impl _ _).mono ?_); rintro e w1 ⟨rfl, rfl⟩))
    go_ret2
    exact ⟨rfl, rfl⟩

set_option maxHeartbeats 800000 in
theorem addAmt_impl (a b : Int) (w : World) : Calls Tryd.prog 109 #[.int .i64 a, .int .i64 b] w fun e w' => e = .returned (if addOk a b = true then .tuple #[.int .i64 (a + b), .bool true] else .tuple #[.int .i64 0, .bool false]) ∧ w = w' := by
  by_cases h : addOk a b = true
  · rw [if_pos h]
    have hb := addOk_t h
    have h1 : amtOk a = true := decide_eq_true (by omega)
    have h2 : amtOk b = true := decide_eq_true (by omega)
    have h3 : amtOk (a + b) = true := decide_eq_true (by omega)
    go_enter Tryd.func109, Tryd.ntmps109
    go_wp2_with (((first | (go_at_call 61; refine (amtOk_impl _ _).mono ?_) | (go_at_call 62; refine (amt_impl _ _).mono ?_)); rintro e w1 ⟨rfl, rfl⟩))
    go_ret2
    exact ⟨rfl, rfl⟩
  · rw [if_neg h]
    have hb := addOk_f h
    by_cases h1 : amtOk a = true
    · by_cases h2 : amtOk b = true
      · have g1 := amtOk_t h1
        have g2 := amtOk_t h2
        have h3 : amtOk (a + b) = false := decide_eq_false (by omega)
        go_enter Tryd.func109, Tryd.ntmps109
        go_wp2_with (((first | (go_at_call 61; refine (amtOk_impl _ _).mono ?_) | (go_at_call 62; refine (amt_impl _ _).mono ?_)); rintro e w1 ⟨rfl, rfl⟩))
        go_ret2
        exact ⟨rfl, rfl⟩
      · go_enter Tryd.func109, Tryd.ntmps109
        go_wp2_with (((first | (go_at_call 61; refine (amtOk_impl _ _).mono ?_) | (go_at_call 62; refine (amt_impl _ _).mono ?_)); rintro e w1 ⟨rfl, rfl⟩))
        go_ret2
        exact ⟨rfl, rfl⟩
    · go_enter Tryd.func109, Tryd.ntmps109
      go_wp2_with (((first | (go_at_call 61; refine (amtOk_impl _ _).mono ?_) | (go_at_call 62; refine (amt_impl _ _).mono ?_)); rintro e w1 ⟨rfl, rfl⟩))
      all_goals
        go_ret2
        exact ⟨rfl, rfl⟩

set_option maxHeartbeats 800000 in
theorem addAmt_spec (a b : Int) (w : World) : Calls Tryd.prog 118 #[.int .i64 a, .int .i64 b] w fun e w' => e = .returned (if addOk a b = true then .tuple #[.int .i64 (a + b), .bool true] else .tuple #[.int .i64 0, .bool false]) ∧ w = w' := by
  by_cases h : addOk a b = true
  · rw [if_pos h]
    have hb := addOk_t h
    have h1 : amtOk a = true := decide_eq_true (by omega)
    have h2 : amtOk b = true := decide_eq_true (by omega)
    have h3 : amtOk (a + b) = true := decide_eq_true (by omega)
    go_enter Tryd.func118, Tryd.ntmps118
    go_wp2_with (((go_at_call 57; refine (amtOk_spec _ _).mono ?_); rintro e w1 ⟨rfl, rfl⟩))
    go_ret2
    exact ⟨rfl, rfl⟩
  · rw [if_neg h]
    have hb := addOk_f h
    by_cases h1 : amtOk a = true
    · by_cases h2 : amtOk b = true
      · have g1 := amtOk_t h1
        have g2 := amtOk_t h2
        have h3 : amtOk (a + b) = false := decide_eq_false (by omega)
        go_enter Tryd.func118, Tryd.ntmps118
        go_wp2_with (((go_at_call 57; refine (amtOk_spec _ _).mono ?_); rintro e w1 ⟨rfl, rfl⟩))
        go_ret2
        exact ⟨rfl, rfl⟩
      · go_enter Tryd.func118, Tryd.ntmps118
        go_wp2_with (((go_at_call 57; refine (amtOk_spec _ _).mono ?_); rintro e w1 ⟨rfl, rfl⟩))
        go_ret2
        exact ⟨rfl, rfl⟩
    · go_enter Tryd.func118, Tryd.ntmps118
      go_wp2_with (((go_at_call 57; refine (amtOk_spec _ _).mono ?_); rintro e w1 ⟨rfl, rfl⟩))
      all_goals
        go_ret2
        exact ⟨rfl, rfl⟩

end Go.Proofs.YtegnlijgjcfmlaaDoor
