/- The law FnExactCheck walked. -/
import Derived.Test.YtmpbhjgddmpdlaaCheck
namespace Go.Proofs.Ytmpbhjgddmpdlaa
open Go.RowKit
set_option maxHeartbeats 400000 in
theorem walk_FnExactCheck (s : ByteArray) (hs : s.size ≤ maxLen) (w : World) :
    Calls Try.prog 3 #[.string s] w fun e w' => e = .returned (.bool true) ∧ Below w.heap.size w w' := by
  by_cases h : s.size ≤ 1048576
  all_goals
    go_enter Try.func3, Try.ntmps3
    go_wp2_with (first | (go_at_call 16; refine (check_impl _ hs _).mono ?_; rintro e w' ⟨rfl, rfl⟩) | (go_at_call 15; refine (check_spec _ hs _).mono ?_; rintro e w' ⟨rfl, rfl⟩))
    go_ret
    exact ⟨rfl, Below.refl _ _⟩
end Go.Proofs.Ytmpbhjgddmpdlaa
