/- Buckets. -/
import Derived.Test.YtmpbhjgddmpdlaaAmt
namespace Go.Proofs.Ytmpbhjgddmpdlaa
open Go.RowKit
set_option linter.unusedVariables false
set_option linter.unusedSimpArgs false

def bucketOk (s r h t : Int) : Bool := amtOk s && amtOk r && inB h 0 s && timeOk t
theorem bucketOk_iff (s r h t : Int) : bucketOk s r h t = decide ((0 ≤ s ∧ s ≤ 1125899906842624) ∧ (0 ≤ r ∧ r ≤ 1125899906842624) ∧ (0 ≤ h ∧ h ≤ s) ∧ 0 ≤ t ∧ t ≤ 1000000000) := by
  simp [bucketOk, amtOk, timeOk, inB, Bool.and_assoc]

set_option maxHeartbeats 400000 in
theorem bucketOk_impl (s r h t : Int) (w : World) : Calls Try.prog 19 #[.agg #[.int .i64 s, .int .i64 r, .int .i64 h, .int .i64 t]] w fun e w' => e = .returned (.bool (bucketOk s r h t)) ∧ Below w.heap.size w w' := by
  go_enter Try.func19, Try.ntmps19
  go_wp2_with (((first | (go_at_call 52; refine (amtOk_impl _ _).mono ?_) | (go_at_call 53; refine (in_impl _ _ _ _).mono ?_) | (go_at_call 54; refine (isTime_impl _ _).mono ?_)); rintro e w1 ⟨rfl, rfl⟩))
  all_goals
    go_ret
    exact ⟨ret_bool (by simp [bucketOk, *]), (Below.refl _ _).alloc (Nat.le_refl _) _⟩

set_option maxHeartbeats 400000 in
theorem bucketOk_spec (s r h t : Int) (w : World) : Calls Try.prog 17 #[.agg #[.int .i64 s, .int .i64 r, .int .i64 h, .int .i64 t]] w fun e w' => e = .returned (.bool (bucketOk s r h t)) ∧ Below w.heap.size w w' := by
  go_enter Try.func17, Try.ntmps17
  go_wp2_with (((first | (go_at_call 50; refine (amtOk_spec _ _).mono ?_) | (go_at_call 51; refine (isTime_spec _ _).mono ?_)); rintro e w1 ⟨rfl, rfl⟩))
  all_goals
    go_ret
    exact ⟨ret_bool (by (try simp only [bucketOk_iff, amtOk_iff, timeOk_iff, inB, decide_eq_true_eq] at *); first | exact tt (by omega) | exact ff (by omega) | exact dd (by omega)), (Below.refl _ _).alloc (Nat.le_refl _) _⟩

end Go.Proofs.Ytmpbhjgddmpdlaa
