/- Bills: the test. -/
import Derived.Test.YtegnlijgjcfmlaaDoorWord
namespace Go.Proofs.YtegnlijgjcfmlaaDoor
open Go.RowKit
set_option linter.unusedVariables false
set_option linter.unusedSimpArgs false

def noteOk (s : ByteArray) : Bool := s.data.toList.isEmpty || wordOk s.data.toList
def billOk (i p a m d : Int) (s : ByteArray) : Bool := (keyOk i && chanOk p && inB a 1 1125899906842624 && timeOk m && timeOk d && decide (m < d)) && noteOk s

set_option maxHeartbeats 1600000 in
theorem billOk_impl (i p a m d : Int) (s : ByteArray) (w : World) (hs : s.size ≤ 9223372036854775807) : Calls Tryd.prog 48 #[.agg #[.int .i64 i, .int .i64 p, .int .i64 a, .int .i64 m, .int .i64 d, .string s]] w fun e w' => e = .returned (.bool (billOk i p a m d s)) ∧ Below w.heap.size w w' := by
  go_enter Tryd.func48, Tryd.ntmps48
  go_wp2_with (((first | (go_at_call 89; refine (isKey_impl _ _).mono ?_) | (go_at_call 90; refine (isChan_impl _ _).mono ?_) | (go_at_call 39; refine (in_impl _ _ _ _).mono ?_) | (go_at_call 60; refine (isTime_impl _ _).mono ?_) | (go_at_call 91; refine (wordOk_impl _ _ (by omega)).mono ?_)); rintro e w1 ⟨rfl, rfl⟩))
  all_goals
    go_ret
    exact ⟨ret_bool (by simp_all [billOk, noteOk, keyOk, amtOk, inB, ByteArray.toList_eq] <;> omega), by (repeat (first | (with_reducible exact Below.refl _ _) | (with_reducible assumption) | (with_reducible refine Below.setCell ?_ ?side _; case side => first | (with_reducible exact Nat.le_refl _) | (simp; done) | (simp only [World.size_alloc, World.size_setCell, World.size_drew, World.heap_drewN] at *; omega)) | (with_reducible refine below_alloc ?_ _) | (with_reducible refine Below.drew ?_) | (with_reducible refine below_drewN ?_) | (with_reducible refine below_via (by assumption) ?_)))⟩

set_option maxHeartbeats 1600000 in
theorem billOk_spec (i p a m d : Int) (s : ByteArray) (w : World) (hs : s.size ≤ 9223372036854775807) : Calls Tryd.prog 25 #[.agg #[.int .i64 i, .int .i64 p, .int .i64 a, .int .i64 m, .int .i64 d, .string s]] w fun e w' => e = .returned (.bool (billOk i p a m d s)) ∧ Below w.heap.size w w' := by
  go_enter Tryd.func25, Tryd.ntmps25
  go_wp2_with (((first | (go_at_call 56; refine (isChan_spec _ _).mono ?_) | (go_at_call 57; refine (amtOk_spec _ _).mono ?_) | (go_at_call 58; refine (isTime_spec _ _).mono ?_) | (go_at_call 59; refine (wordOk_spec _ _ (by omega)).mono ?_)); rintro e w1 ⟨rfl, rfl⟩))
  all_goals
    go_ret
    exact ⟨ret_bool (by simp_all [billOk, noteOk, keyOk, amtOk, inB, ByteArray.toList_eq] <;> omega), by (repeat (first | (with_reducible exact Below.refl _ _) | (with_reducible assumption) | (with_reducible refine Below.setCell ?_ ?side _; case side => first | (with_reducible exact Nat.le_refl _) | (simp; done) | (simp only [World.size_alloc, World.size_setCell, World.size_drew, World.heap_drewN] at *; omega)) | (with_reducible refine below_alloc ?_ _) | (with_reducible refine Below.drew ?_) | (with_reducible refine below_drewN ?_) | (with_reducible refine below_via (by assumption) ?_)))⟩

end Go.Proofs.YtegnlijgjcfmlaaDoor
