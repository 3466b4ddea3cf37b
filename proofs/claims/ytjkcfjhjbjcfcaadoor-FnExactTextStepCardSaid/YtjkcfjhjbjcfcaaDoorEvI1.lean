/- Events: the program says which are right. -/
import Derived.Test.YtjkcfjhjbjcfcaaDoorEvA
import Derived.BigRegion
namespace Go.Proofs.YtjkcfjhjbjcfcaaDoor
open Go.RowKit
set_option linter.unusedVariables false
set_option linter.unusedSimpArgs false

set_option maxRecDepth 100000 in
set_option maxHeartbeats 3200000 in
theorem evOk_impl1 (key ch too amt fee : Int) (yes : Bool) (w : World) : Calls Tryd.prog 47 #[.agg #[.int .i64 1, .int .i64 key, .int .i64 ch, .int .i64 too, .int .i64 amt, .int .i64 fee, .bool yes]] w fun e w' => e = .returned (.bool (evOk 1 key ch too amt fee yes)) ∧ Below w.heap.size w w' := by
  have hr := Lib.hid (evOk_k1 key ch too amt fee yes)
  go_enter Tryd.func47, Tryd.ntmps47
  go_wp2_with (((first | (go_at_call 36; refine (amtOk_impl _ _).mono ?_) | (go_at_call 59; refine (isChan_impl _ _).mono ?_) | (go_at_call 60; refine (isKey_impl _ _).mono ?_)); rintro e w1 ⟨rfl, rfl⟩))
  all_goals
    go_ret
    refine ⟨ret_bool ?_, by (repeat (first | (with_reducible exact Below.refl _ _) | (with_reducible assumption) | (with_reducible refine Below.setCell ?_ ?side _; case side => first | (with_reducible exact Nat.le_refl _) | (simp; done) | (simp only [World.size_alloc, World.size_setCell, World.size_drew, World.heap_drewN] at *; omega)) | (with_reducible refine below_alloc ?_ _) | (with_reducible refine Below.drew ?_) | (with_reducible refine below_drewN ?_) | (with_reducible refine below_via (by assumption) ?_)))⟩
    rw [hr.out]
    clear hr
    (try simp only [amtOk, keyOk, chanOk, inB, decide_eq_true_eq, decide_eq_false_iff_not, bne_iff_ne, beq_iff_eq, ne_eq, Bool.not_eq_true, Bool.not_eq_false, Bool.false_eq_true, not_false_eq_true, not_true_eq_false, Bool.true_eq_false] at *)
    first | exact tt (by first | omega | (simp_all <;> omega)) | exact ff (by first | omega | (simp_all <;> omega)) | (rw [Bool.eq_iff_iff]; simp_all <;> omega)
set_option maxRecDepth 100000 in
set_option maxHeartbeats 3200000 in
theorem evOk_impl2 (key ch too amt fee : Int) (yes : Bool) (w : World) : Calls Tryd.prog 47 #[.agg #[.int .i64 2, .int .i64 key, .int .i64 ch, .int .i64 too, .int .i64 amt, .int .i64 fee, .bool yes]] w fun e w' => e = .returned (.bool (evOk 2 key ch too amt fee yes)) ∧ Below w.heap.size w w' := by
  have hr := Lib.hid (evOk_k2 key ch too amt fee yes)
  go_enter Tryd.func47, Tryd.ntmps47
  go_wp2_with (((first | (go_at_call 36; refine (amtOk_impl _ _).mono ?_) | (go_at_call 59; refine (isChan_impl _ _).mono ?_) | (go_at_call 60; refine (isKey_impl _ _).mono ?_)); rintro e w1 ⟨rfl, rfl⟩))
  all_goals (try (go_region; all_goals go_wp2_with (((first | (go_at_call 36; refine (amtOk_impl _ _).mono ?_) | (go_at_call 59; refine (isChan_impl _ _).mono ?_) | (go_at_call 60; refine (isKey_impl _ _).mono ?_)); rintro e w1 ⟨rfl, rfl⟩))))
  all_goals
    go_ret
    refine ⟨ret_bool ?_, by (repeat (first | (with_reducible exact Below.refl _ _) | (with_reducible assumption) | (with_reducible refine Below.setCell ?_ ?side _; case side => first | (with_reducible exact Nat.le_refl _) | (simp; done) | (simp only [World.size_alloc, World.size_setCell, World.size_drew, World.heap_drewN] at *; omega)) | (with_reducible refine below_alloc ?_ _) | (with_reducible refine Below.drew ?_) | (with_reducible refine below_drewN ?_) | (with_reducible refine below_via (by assumption) ?_)))⟩
    rw [hr.out]
    clear hr
    (try simp only [amtOk, keyOk, chanOk, inB, decide_eq_true_eq, decide_eq_false_iff_not, bne_iff_ne, beq_iff_eq, ne_eq, Bool.not_eq_true, Bool.not_eq_false, Bool.false_eq_true, not_false_eq_true, not_true_eq_false, Bool.true_eq_false] at *)
    first | exact tt (by first | omega | (simp_all <;> omega)) | exact ff (by first | omega | (simp_all <;> omega)) | (rw [Bool.eq_iff_iff]; simp_all <;> omega)

set_option maxRecDepth 100000 in
set_option maxHeartbeats 3200000 in
theorem evOk_impl3 (key ch too amt fee : Int) (yes : Bool) (w : World) : Calls Tryd.prog 47 #[.agg #[.int .i64 3, .int .i64 key, .int .i64 ch, .int .i64 too, .int .i64 amt, .int .i64 fee, .bool yes]] w fun e w' => e = .returned (.bool (evOk 3 key ch too amt fee yes)) ∧ Below w.heap.size w w' := by
  have hr := Lib.hid (evOk_k3 key ch too amt fee yes)
  go_enter Tryd.func47, Tryd.ntmps47
  go_wp2_with (((first | (go_at_call 36; refine (amtOk_impl _ _).mono ?_) | (go_at_call 59; refine (isChan_impl _ _).mono ?_) | (go_at_call 60; refine (isKey_impl _ _).mono ?_)); rintro e w1 ⟨rfl, rfl⟩))
  all_goals (try (go_region; all_goals go_wp2_with (((first | (go_at_call 36; refine (amtOk_impl _ _).mono ?_) | (go_at_call 59; refine (isChan_impl _ _).mono ?_) | (go_at_call 60; refine (isKey_impl _ _).mono ?_)); rintro e w1 ⟨rfl, rfl⟩))))
  all_goals
    go_ret
    refine ⟨ret_bool ?_, by (repeat (first | (with_reducible exact Below.refl _ _) | (with_reducible assumption) | (with_reducible refine Below.setCell ?_ ?side _; case side => first | (with_reducible exact Nat.le_refl _) | (simp; done) | (simp only [World.size_alloc, World.size_setCell, World.size_drew, World.heap_drewN] at *; omega)) | (with_reducible refine below_alloc ?_ _) | (with_reducible refine Below.drew ?_) | (with_reducible refine below_drewN ?_) | (with_reducible refine below_via (by assumption) ?_)))⟩
    rw [hr.out]
    clear hr
    (try simp only [amtOk, keyOk, chanOk, inB, decide_eq_true_eq, decide_eq_false_iff_not, bne_iff_ne, beq_iff_eq, ne_eq, Bool.not_eq_true, Bool.not_eq_false, Bool.false_eq_true, not_false_eq_true, not_true_eq_false, Bool.true_eq_false] at *)
    first | exact tt (by first | omega | (simp_all <;> omega)) | exact ff (by first | omega | (simp_all <;> omega)) | (rw [Bool.eq_iff_iff]; simp_all <;> omega)

set_option maxRecDepth 100000 in
set_option maxHeartbeats 3200000 in
theorem evOk_impl4 (key ch too amt fee : Int) (yes : Bool) (w : World) : Calls Tryd.prog 47 #[.agg #[.int .i64 4, .int .i64 key, .int .i64 ch, .int .i64 too, .int .i64 amt, .int .i64 fee, .bool yes]] w fun e w' => e = .returned (.bool (evOk 4 key ch too amt fee yes)) ∧ Below w.heap.size w w' := by
  have hr := Lib.hid (evOk_k4 key ch too amt fee yes)
  go_enter Tryd.func47, Tryd.ntmps47
  go_wp2_with (((first | (go_at_call 36; refine (amtOk_impl _ _).mono ?_) | (go_at_call 59; refine (isChan_impl _ _).mono ?_) | (go_at_call 60; refine (isKey_impl _ _).mono ?_)); rintro e w1 ⟨rfl, rfl⟩))
  all_goals (try (go_region; all_goals go_wp2_with (((first | (go_at_call 36; refine (amtOk_impl _ _).mono ?_) | (go_at_call 59; refine (isChan_impl _ _).mono ?_) | (go_at_call 60; refine (isKey_impl _ _).mono ?_)); rintro e w1 ⟨rfl, rfl⟩))))
  all_goals
    go_ret
    refine ⟨ret_bool ?_, by (repeat (first | (with_reducible exact Below.refl _ _) | (with_reducible assumption) | (with_reducible refine Below.setCell ?_ ?side _; case side => first | (with_reducible exact Nat.le_refl _) | (simp; done) | (simp only [World.size_alloc, World.size_setCell, World.size_drew, World.heap_drewN] at *; omega)) | (with_reducible refine below_alloc ?_ _) | (with_reducible refine Below.drew ?_) | (with_reducible refine below_drewN ?_) | (with_reducible refine below_via (by assumption) ?_)))⟩
    rw [hr.out]
    clear hr
    (try simp only [amtOk, keyOk, chanOk, inB, decide_eq_true_eq, decide_eq_false_iff_not, bne_iff_ne, beq_iff_eq, ne_eq, Bool.not_eq_true, Bool.not_eq_false, Bool.false_eq_true, not_false_eq_true, not_true_eq_false, Bool.true_eq_false] at *)
    first | exact tt (by first | omega | (simp_all <;> omega)) | exact ff (by first | omega | (simp_all <;> omega)) | (rw [Bool.eq_iff_iff]; simp_all <;> omega)

set_option maxRecDepth 100000 in
set_option maxHeartbeats 3200000 in
theorem evOk_impl6 (key ch too amt fee : Int) (yes : Bool) (w : World) : Calls Tryd.prog 47 #[.agg #[.int .i64 6, .int .i64 key, .int .i64 ch, .int .i64 too, .int .i64 amt, .int .i64 fee, .bool yes]] w fun e w' => e = .returned (.bool (evOk 6 key ch too amt fee yes)) ∧ Below w.heap.size w w' := by
  have hr := Lib.hid (evOk_k6 key ch too amt fee yes)
  go_enter Tryd.func47, Tryd.ntmps47
  go_wp2_with (((first | (go_at_call 36; refine (amtOk_impl _ _).mono ?_) | (go_at_call 59; refine (isChan_impl _ _).mono ?_) | (go_at_call 60; refine (isKey_impl _ _).mono ?_)); rintro e w1 ⟨rfl, rfl⟩))
  all_goals
    go_ret
    refine ⟨ret_bool ?_, by (repeat (first | (with_reducible exact Below.refl _ _) | (with_reducible assumption) | (with_reducible refine Below.setCell ?_ ?side _; case side => first | (with_reducible exact Nat.le_refl _) | (simp; done) | (simp only [World.size_alloc, World.size_setCell, World.size_drew, World.heap_drewN] at *; omega)) | (with_reducible refine below_alloc ?_ _) | (with_reducible refine Below.drew ?_) | (with_reducible refine below_drewN ?_) | (with_reducible refine below_via (by assumption) ?_)))⟩
    rw [hr.out]
    clear hr
    (try simp only [amtOk, keyOk, chanOk, inB, decide_eq_true_eq, decide_eq_false_iff_not, bne_iff_ne, beq_iff_eq, ne_eq, Bool.not_eq_true, Bool.not_eq_false, Bool.false_eq_true, not_false_eq_true, not_true_eq_false, Bool.true_eq_false] at *)
    first | exact tt (by first | omega | (simp_all <;> omega)) | exact ff (by first | omega | (simp_all <;> omega)) | (rw [Bool.eq_iff_iff]; simp_all <;> omega)
set_option maxRecDepth 100000 in
set_option maxHeartbeats 3200000 in
theorem evOk_impl7 (key ch too amt fee : Int) (yes : Bool) (w : World) : Calls Tryd.prog 47 #[.agg #[.int .i64 7, .int .i64 key, .int .i64 ch, .int .i64 too, .int .i64 amt, .int .i64 fee, .bool yes]] w fun e w' => e = .returned (.bool (evOk 7 key ch too amt fee yes)) ∧ Below w.heap.size w w' := by
  have hr := Lib.hid (evOk_k7 key ch too amt fee yes)
  go_enter Tryd.func47, Tryd.ntmps47
  go_wp2_with (((first | (go_at_call 36; refine (amtOk_impl _ _).mono ?_) | (go_at_call 59; refine (isChan_impl _ _).mono ?_) | (go_at_call 60; refine (isKey_impl _ _).mono ?_)); rintro e w1 ⟨rfl, rfl⟩))
  all_goals
    go_ret
    refine ⟨ret_bool ?_, by (repeat (first | (with_reducible exact Below.refl _ _) | (with_reducible assumption) | (with_reducible refine Below.setCell ?_ ?side _; case side => first | (with_reducible exact Nat.le_refl _) | (simp; done) | (simp only [World.size_alloc, World.size_setCell, World.size_drew, World.heap_drewN] at *; omega)) | (with_reducible refine below_alloc ?_ _) | (with_reducible refine Below.drew ?_) | (with_reducible refine below_drewN ?_) | (with_reducible refine below_via (by assumption) ?_)))⟩
    rw [hr.out]
    clear hr
    (try simp only [amtOk, keyOk, chanOk, inB, decide_eq_true_eq, decide_eq_false_iff_not, bne_iff_ne, beq_iff_eq, ne_eq, Bool.not_eq_true, Bool.not_eq_false, Bool.false_eq_true, not_false_eq_true, not_true_eq_false, Bool.true_eq_false] at *)
    first | exact tt (by first | omega | (simp_all <;> omega)) | exact ff (by first | omega | (simp_all <;> omega)) | (rw [Bool.eq_iff_iff]; simp_all <;> omega)
set_option maxRecDepth 100000 in
set_option maxHeartbeats 3200000 in
theorem evOk_impl8 (key ch too amt fee : Int) (yes : Bool) (w : World) : Calls Tryd.prog 47 #[.agg #[.int .i64 8, .int .i64 key, .int .i64 ch, .int .i64 too, .int .i64 amt, .int .i64 fee, .bool yes]] w fun e w' => e = .returned (.bool (evOk 8 key ch too amt fee yes)) ∧ Below w.heap.size w w' := by
  have hr := Lib.hid (evOk_k8 key ch too amt fee yes)
  go_enter Tryd.func47, Tryd.ntmps47
  go_wp2_with (((first | (go_at_call 36; refine (amtOk_impl _ _).mono ?_) | (go_at_call 59; refine (isChan_impl _ _).mono ?_) | (go_at_call 60; refine (isKey_impl _ _).mono ?_)); rintro e w1 ⟨rfl, rfl⟩))
  all_goals
    go_ret
    refine ⟨ret_bool ?_, by (repeat (first | (with_reducible exact Below.refl _ _) | (with_reducible assumption) | (with_reducible refine Below.setCell ?_ ?side _; case side => first | (with_reducible exact Nat.le_refl _) | (simp; done) | (simp only [World.size_alloc, World.size_setCell, World.size_drew, World.heap_drewN] at *; omega)) | (with_reducible refine below_alloc ?_ _) | (with_reducible refine Below.drew ?_) | (with_reducible refine below_drewN ?_) | (with_reducible refine below_via (by assumption) ?_)))⟩
    rw [hr.out]
    clear hr
    (try simp only [amtOk, keyOk, chanOk, inB, decide_eq_true_eq, decide_eq_false_iff_not, bne_iff_ne, beq_iff_eq, ne_eq, Bool.not_eq_true, Bool.not_eq_false, Bool.false_eq_true, not_false_eq_true, not_true_eq_false, Bool.true_eq_false] at *)
    first | exact tt (by first | omega | (simp_all <;> omega)) | exact ff (by first | omega | (simp_all <;> omega)) | (rw [Bool.eq_iff_iff]; simp_all <;> omega)
set_option maxRecDepth 100000 in
set_option maxHeartbeats 3200000 in
theorem evOk_impl10 (key ch too amt fee : Int) (yes : Bool) (w : World) : Calls Tryd.prog 47 #[.agg #[.int .i64 10, .int .i64 key, .int .i64 ch, .int .i64 too, .int .i64 amt, .int .i64 fee, .bool yes]] w fun e w' => e = .returned (.bool (evOk 10 key ch too amt fee yes)) ∧ Below w.heap.size w w' := by
  have hr := Lib.hid (evOk_k10 key ch too amt fee yes)
  go_enter Tryd.func47, Tryd.ntmps47
  go_wp2_with (((first | (go_at_call 36; refine (amtOk_impl _ _).mono ?_) | (go_at_call 59; refine (isChan_impl _ _).mono ?_) | (go_at_call 60; refine (isKey_impl _ _).mono ?_)); rintro e w1 ⟨rfl, rfl⟩))
  all_goals
    go_ret
    refine ⟨ret_bool ?_, by (repeat (first | (with_reducible exact Below.refl _ _) | (with_reducible assumption) | (with_reducible refine Below.setCell ?_ ?side _; case side => first | (with_reducible exact Nat.le_refl _) | (simp; done) | (simp only [World.size_alloc, World.size_setCell, World.size_drew, World.heap_drewN] at *; omega)) | (with_reducible refine below_alloc ?_ _) | (with_reducible refine Below.drew ?_) | (with_reducible refine below_drewN ?_) | (with_reducible refine below_via (by assumption) ?_)))⟩
    rw [hr.out]
    clear hr
    (try simp only [amtOk, keyOk, chanOk, inB, decide_eq_true_eq, decide_eq_false_iff_not, bne_iff_ne, beq_iff_eq, ne_eq, Bool.not_eq_true, Bool.not_eq_false, Bool.false_eq_true, not_false_eq_true, not_true_eq_false, Bool.true_eq_false] at *)
    first | exact tt (by first | omega | (simp_all <;> omega)) | exact ff (by first | omega | (simp_all <;> omega)) | (rw [Bool.eq_iff_iff]; simp_all <;> omega)
set_option maxRecDepth 100000 in
set_option maxHeartbeats 3200000 in
theorem evOk_impl11 (key ch too amt fee : Int) (yes : Bool) (w : World) : Calls Tryd.prog 47 #[.agg #[.int .i64 11, .int .i64 key, .int .i64 ch, .int .i64 too, .int .i64 amt, .int .i64 fee, .bool yes]] w fun e w' => e = .returned (.bool (evOk 11 key ch too amt fee yes)) ∧ Below w.heap.size w w' := by
  have hr := Lib.hid (evOk_k11 key ch too amt fee yes)
  go_enter Tryd.func47, Tryd.ntmps47
  go_wp2_with (((first | (go_at_call 36; refine (amtOk_impl _ _).mono ?_) | (go_at_call 59; refine (isChan_impl _ _).mono ?_) | (go_at_call 60; refine (isKey_impl _ _).mono ?_)); rintro e w1 ⟨rfl, rfl⟩))
  all_goals
    go_ret
    refine ⟨ret_bool ?_, by (repeat (first | (with_reducible exact Below.refl _ _) | (with_reducible assumption) | (with_reducible refine Below.setCell ?_ ?side _; case side => first | (with_reducible exact Nat.le_refl _) | (simp; done) | (simp only [World.size_alloc, World.size_setCell, World.size_drew, World.heap_drewN] at *; omega)) | (with_reducible refine below_alloc ?_ _) | (with_reducible refine Below.drew ?_) | (with_reducible refine below_drewN ?_) | (with_reducible refine below_via (by assumption) ?_)))⟩
    rw [hr.out]
    clear hr
    (try simp only [amtOk, keyOk, chanOk, inB, decide_eq_true_eq, decide_eq_false_iff_not, bne_iff_ne, beq_iff_eq, ne_eq, Bool.not_eq_true, Bool.not_eq_false, Bool.false_eq_true, not_false_eq_true, not_true_eq_false, Bool.true_eq_false] at *)
    first | exact tt (by first | omega | (simp_all <;> omega)) | exact ff (by first | omega | (simp_all <;> omega)) | (rw [Bool.eq_iff_iff]; simp_all <;> omega)

end Go.Proofs.YtjkcfjhjbjcfcaaDoor
