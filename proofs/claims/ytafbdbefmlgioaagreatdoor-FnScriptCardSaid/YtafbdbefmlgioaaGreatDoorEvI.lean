/- Events: the program says which are right. -/
import Derived.Test.YtafbdbefmlgioaaGreatDoorEvA
import Derived.BigRegion
import Derived.Test.YtafbdbefmlgioaaGreatDoorEvS
import Derived.Test.YtafbdbefmlgioaaGreatDoorEvT
import Derived.Test.YtafbdbefmlgioaaGreatDoorWords
namespace Go.Proofs.YtafbdbefmlgioaaGreatDoor
open Go.RowKit
set_option linter.unusedVariables false
set_option linter.unusedSimpArgs false

set_option maxRecDepth 100000 in
set_option maxHeartbeats 3200000 in
theorem evOk_impl1 (key ch too amt fee : Int) (yes : Bool) (w : World) : Calls Tryz.prog 83 #[.agg #[.int .i64 1, .int .i64 key, .int .i64 ch, .int .i64 too, .int .i64 amt, .int .i64 fee, .bool yes]] w fun e w' => e = .returned (.bool (evOk 1 key ch too amt fee yes)) ∧ Below w.heap.size w w' := by
  have hr := Lib.hid (evOk_k1 key ch too amt fee yes)
  go_enter Tryz.func83, Tryz.ntmps83
  go_wp2_with (((first | (go_at_call 47; refine (amtOk_impl _ _).mono ?_) | (go_at_call 124; refine (isChan_impl _ _).mono ?_) | (go_at_call 125; refine (isKey_impl _ _).mono ?_)); rintro e w1 ⟨rfl, rfl⟩))
  all_goals
    go_ret
    refine ⟨ret_bool ?_, by (repeat (first | (with_reducible exact Below.refl _ _) | (with_reducible assumption) | (with_reducible refine Below.setCell ?_ ?side _; case side => first | (with_reducible exact Nat.le_refl _) | (simp; done) | (simp only [World.size_alloc, World.size_setCell, World.size_drew, World.heap_drewN] at *; omega)) | (with_reducible refine below_alloc ?_ _) | (with_reducible refine Below.drew ?_) | (with_reducible refine below_drewN ?_) | (with_reducible refine below_via (by assumption) ?_)))⟩
    rw [hr.out]
    clear hr
    (try simp only [amtOk, keyOk, chanOk, inB, decide_eq_true_eq, decide_eq_false_iff_not, bne_iff_ne, beq_iff_eq, ne_eq, Bool.not_eq_true, Bool.not_eq_false, Bool.false_eq_true, not_false_eq_true, not_true_eq_false, Bool.true_eq_false] at *)
    first | exact tt (by first | omega | (simp_all <;> omega)) | exact ff (by first | omega | (simp_all <;> omega)) | (rw [Bool.eq_iff_iff]; simp_all <;> omega)
set_option maxRecDepth 100000 in
set_option maxHeartbeats 3200000 in
theorem evOk_impl2 (key ch too amt fee : Int) (yes : Bool) (w : World) : Calls Tryz.prog 83 #[.agg #[.int .i64 2, .int .i64 key, .int .i64 ch, .int .i64 too, .int .i64 amt, .int .i64 fee, .bool yes]] w fun e w' => e = .returned (.bool (evOk 2 key ch too amt fee yes)) ∧ Below w.heap.size w w' := by
  have hr := Lib.hid (evOk_k2 key ch too amt fee yes)
  go_enter Tryz.func83, Tryz.ntmps83
  go_wp2_with (((first | (go_at_call 47; refine (amtOk_impl _ _).mono ?_) | (go_at_call 124; refine (isChan_impl _ _).mono ?_) | (go_at_call 125; refine (isKey_impl _ _).mono ?_)); rintro e w1 ⟨rfl, rfl⟩))
  all_goals (try (go_region; all_goals go_wp2_with (((first | (go_at_call 47; refine (amtOk_impl _ _).mono ?_) | (go_at_call 124; refine (isChan_impl _ _).mono ?_) | (go_at_call 125; refine (isKey_impl _ _).mono ?_)); rintro e w1 ⟨rfl, rfl⟩))))
  all_goals
    go_ret
    refine ⟨ret_bool ?_, by (repeat (first | (with_reducible exact Below.refl _ _) | (with_reducible assumption) | (with_reducible refine Below.setCell ?_ ?side _; case side => first | (with_reducible exact Nat.le_refl _) | (simp; done) | (simp only [World.size_alloc, World.size_setCell, World.size_drew, World.heap_drewN] at *; omega)) | (with_reducible refine below_alloc ?_ _) | (with_reducible refine Below.drew ?_) | (with_reducible refine below_drewN ?_) | (with_reducible refine below_via (by assumption) ?_)))⟩
    rw [hr.out]
    clear hr
    (try simp only [amtOk, keyOk, chanOk, inB, decide_eq_true_eq, decide_eq_false_iff_not, bne_iff_ne, beq_iff_eq, ne_eq, Bool.not_eq_true, Bool.not_eq_false, Bool.false_eq_true, not_false_eq_true, not_true_eq_false, Bool.true_eq_false] at *)
    first | exact tt (by first | omega | (simp_all <;> omega)) | exact ff (by first | omega | (simp_all <;> omega)) | (rw [Bool.eq_iff_iff]; simp_all <;> omega)

set_option maxRecDepth 100000 in
set_option maxHeartbeats 3200000 in
theorem evOk_impl3 (key ch too amt fee : Int) (yes : Bool) (w : World) : Calls Tryz.prog 83 #[.agg #[.int .i64 3, .int .i64 key, .int .i64 ch, .int .i64 too, .int .i64 amt, .int .i64 fee, .bool yes]] w fun e w' => e = .returned (.bool (evOk 3 key ch too amt fee yes)) ∧ Below w.heap.size w w' := by
  have hr := Lib.hid (evOk_k3 key ch too amt fee yes)
  go_enter Tryz.func83, Tryz.ntmps83
  go_wp2_with (((first | (go_at_call 47; refine (amtOk_impl _ _).mono ?_) | (go_at_call 124; refine (isChan_impl _ _).mono ?_) | (go_at_call 125; refine (isKey_impl _ _).mono ?_)); rintro e w1 ⟨rfl, rfl⟩))
  all_goals (try (go_region; all_goals go_wp2_with (((first | (go_at_call 47; refine (amtOk_impl _ _).mono ?_) | (go_at_call 124; refine (isChan_impl _ _).mono ?_) | (go_at_call 125; refine (isKey_impl _ _).mono ?_)); rintro e w1 ⟨rfl, rfl⟩))))
  all_goals
    go_ret
    refine ⟨ret_bool ?_, by (repeat (first | (with_reducible exact Below.refl _ _) | (with_reducible assumption) | (with_reducible refine Below.setCell ?_ ?side _; case side => first | (with_reducible exact Nat.le_refl _) | (simp; done) | (simp only [World.size_alloc, World.size_setCell, World.size_drew, World.heap_drewN] at *; omega)) | (with_reducible refine below_alloc ?_ _) | (with_reducible refine Below.drew ?_) | (with_reducible refine below_drewN ?_) | (with_reducible refine below_via (by assumption) ?_)))⟩
    rw [hr.out]
    clear hr
    (try simp only [amtOk, keyOk, chanOk, inB, decide_eq_true_eq, decide_eq_false_iff_not, bne_iff_ne, beq_iff_eq, ne_eq, Bool.not_eq_true, Bool.not_eq_false, Bool.false_eq_true, not_false_eq_true, not_true_eq_false, Bool.true_eq_false] at *)
    first | exact tt (by first | omega | (simp_all <;> omega)) | exact ff (by first | omega | (simp_all <;> omega)) | (rw [Bool.eq_iff_iff]; simp_all <;> omega)

set_option maxRecDepth 100000 in
set_option maxHeartbeats 3200000 in
theorem evOk_impl4 (key ch too amt fee : Int) (yes : Bool) (w : World) : Calls Tryz.prog 83 #[.agg #[.int .i64 4, .int .i64 key, .int .i64 ch, .int .i64 too, .int .i64 amt, .int .i64 fee, .bool yes]] w fun e w' => e = .returned (.bool (evOk 4 key ch too amt fee yes)) ∧ Below w.heap.size w w' := by
  have hr := Lib.hid (evOk_k4 key ch too amt fee yes)
  go_enter Tryz.func83, Tryz.ntmps83
  go_wp2_with (((first | (go_at_call 47; refine (amtOk_impl _ _).mono ?_) | (go_at_call 124; refine (isChan_impl _ _).mono ?_) | (go_at_call 125; refine (isKey_impl _ _).mono ?_)); rintro e w1 ⟨rfl, rfl⟩))
  all_goals (try (go_region; all_goals go_wp2_with (((first | (go_at_call 47; refine (amtOk_impl _ _).mono ?_) | (go_at_call 124; refine (isChan_impl _ _).mono ?_) | (go_at_call 125; refine (isKey_impl _ _).mono ?_)); rintro e w1 ⟨rfl, rfl⟩))))
  all_goals
    go_ret
    refine ⟨ret_bool ?_, by (repeat (first | (with_reducible exact Below.refl _ _) | (with_reducible assumption) | (with_reducible refine Below.setCell ?_ ?side _; case side => first | (with_reducible exact Nat.le_refl _) | (simp; done) | (simp only [World.size_alloc, World.size_setCell, World.size_drew, World.heap_drewN] at *; omega)) | (with_reducible refine below_alloc ?_ _) | (with_reducible refine Below.drew ?_) | (with_reducible refine below_drewN ?_) | (with_reducible refine below_via (by assumption) ?_)))⟩
    rw [hr.out]
    clear hr
    (try simp only [amtOk, keyOk, chanOk, inB, decide_eq_true_eq, decide_eq_false_iff_not, bne_iff_ne, beq_iff_eq, ne_eq, Bool.not_eq_true, Bool.not_eq_false, Bool.false_eq_true, not_false_eq_true, not_true_eq_false, Bool.true_eq_false] at *)
    first | exact tt (by first | omega | (simp_all <;> omega)) | exact ff (by first | omega | (simp_all <;> omega)) | (rw [Bool.eq_iff_iff]; simp_all <;> omega)

set_option maxRecDepth 100000 in
set_option maxHeartbeats 3200000 in
theorem evOk_impl6 (key ch too amt fee : Int) (yes : Bool) (w : World) : Calls Tryz.prog 83 #[.agg #[.int .i64 6, .int .i64 key, .int .i64 ch, .int .i64 too, .int .i64 amt, .int .i64 fee, .bool yes]] w fun e w' => e = .returned (.bool (evOk 6 key ch too amt fee yes)) ∧ Below w.heap.size w w' := by
  have hr := Lib.hid (evOk_k6 key ch too amt fee yes)
  go_enter Tryz.func83, Tryz.ntmps83
  go_wp2_with (((first | (go_at_call 47; refine (amtOk_impl _ _).mono ?_) | (go_at_call 124; refine (isChan_impl _ _).mono ?_) | (go_at_call 125; refine (isKey_impl _ _).mono ?_)); rintro e w1 ⟨rfl, rfl⟩))
  all_goals
    go_ret
    refine ⟨ret_bool ?_, by (repeat (first | (with_reducible exact Below.refl _ _) | (with_reducible assumption) | (with_reducible refine Below.setCell ?_ ?side _; case side => first | (with_reducible exact Nat.le_refl _) | (simp; done) | (simp only [World.size_alloc, World.size_setCell, World.size_drew, World.heap_drewN] at *; omega)) | (with_reducible refine below_alloc ?_ _) | (with_reducible refine Below.drew ?_) | (with_reducible refine below_drewN ?_) | (with_reducible refine below_via (by assumption) ?_)))⟩
    rw [hr.out]
    clear hr
    (try simp only [amtOk, keyOk, chanOk, inB, decide_eq_true_eq, decide_eq_false_iff_not, bne_iff_ne, beq_iff_eq, ne_eq, Bool.not_eq_true, Bool.not_eq_false, Bool.false_eq_true, not_false_eq_true, not_true_eq_false, Bool.true_eq_false] at *)
    first | exact tt (by first | omega | (simp_all <;> omega)) | exact ff (by first | omega | (simp_all <;> omega)) | (rw [Bool.eq_iff_iff]; simp_all <;> omega)
set_option maxRecDepth 100000 in
set_option maxHeartbeats 3200000 in
theorem evOk_impl7 (key ch too amt fee : Int) (yes : Bool) (w : World) : Calls Tryz.prog 83 #[.agg #[.int .i64 7, .int .i64 key, .int .i64 ch, .int .i64 too, .int .i64 amt, .int .i64 fee, .bool yes]] w fun e w' => e = .returned (.bool (evOk 7 key ch too amt fee yes)) ∧ Below w.heap.size w w' := by
  have hr := Lib.hid (evOk_k7 key ch too amt fee yes)
  go_enter Tryz.func83, Tryz.ntmps83
  go_wp2_with (((first | (go_at_call 47; refine (amtOk_impl _ _).mono ?_) | (go_at_call 124; refine (isChan_impl _ _).mono ?_) | (go_at_call 125; refine (isKey_impl _ _).mono ?_)); rintro e w1 ⟨rfl, rfl⟩))
  all_goals
    go_ret
    refine ⟨ret_bool ?_, by (repeat (first | (with_reducible exact Below.refl _ _) | (with_reducible assumption) | (with_reducible refine Below.setCell ?_ ?side _; case side => first | (with_reducible exact Nat.le_refl _) | (simp; done) | (simp only [World.size_alloc, World.size_setCell, World.size_drew, World.heap_drewN] at *; omega)) | (with_reducible refine below_alloc ?_ _) | (with_reducible refine Below.drew ?_) | (with_reducible refine below_drewN ?_) | (with_reducible refine below_via (by assumption) ?_)))⟩
    rw [hr.out]
    clear hr
    (try simp only [amtOk, keyOk, chanOk, inB, decide_eq_true_eq, decide_eq_false_iff_not, bne_iff_ne, beq_iff_eq, ne_eq, Bool.not_eq_true, Bool.not_eq_false, Bool.false_eq_true, not_false_eq_true, not_true_eq_false, Bool.true_eq_false] at *)
    first | exact tt (by first | omega | (simp_all <;> omega)) | exact ff (by first | omega | (simp_all <;> omega)) | (rw [Bool.eq_iff_iff]; simp_all <;> omega)
set_option maxRecDepth 100000 in
set_option maxHeartbeats 3200000 in
theorem evOk_impl8 (key ch too amt fee : Int) (yes : Bool) (w : World) : Calls Tryz.prog 83 #[.agg #[.int .i64 8, .int .i64 key, .int .i64 ch, .int .i64 too, .int .i64 amt, .int .i64 fee, .bool yes]] w fun e w' => e = .returned (.bool (evOk 8 key ch too amt fee yes)) ∧ Below w.heap.size w w' := by
  have hr := Lib.hid (evOk_k8 key ch too amt fee yes)
  go_enter Tryz.func83, Tryz.ntmps83
  go_wp2_with (((first | (go_at_call 47; refine (amtOk_impl _ _).mono ?_) | (go_at_call 124; refine (isChan_impl _ _).mono ?_) | (go_at_call 125; refine (isKey_impl _ _).mono ?_)); rintro e w1 ⟨rfl, rfl⟩))
  all_goals
    go_ret
    refine ⟨ret_bool ?_, by (repeat (first | (with_reducible exact Below.refl _ _) | (with_reducible assumption) | (with_reducible refine Below.setCell ?_ ?side _; case side => first | (with_reducible exact Nat.le_refl _) | (simp; done) | (simp only [World.size_alloc, World.size_setCell, World.size_drew, World.heap_drewN] at *; omega)) | (with_reducible refine below_alloc ?_ _) | (with_reducible refine Below.drew ?_) | (with_reducible refine below_drewN ?_) | (with_reducible refine below_via (by assumption) ?_)))⟩
    rw [hr.out]
    clear hr
    (try simp only [amtOk, keyOk, chanOk, inB, decide_eq_true_eq, decide_eq_false_iff_not, bne_iff_ne, beq_iff_eq, ne_eq, Bool.not_eq_true, Bool.not_eq_false, Bool.false_eq_true, not_false_eq_true, not_true_eq_false, Bool.true_eq_false] at *)
    first | exact tt (by first | omega | (simp_all <;> omega)) | exact ff (by first | omega | (simp_all <;> omega)) | (rw [Bool.eq_iff_iff]; simp_all <;> omega)
set_option maxRecDepth 100000 in
set_option maxHeartbeats 3200000 in
theorem evOk_impl10 (key ch too amt fee : Int) (yes : Bool) (w : World) : Calls Tryz.prog 83 #[.agg #[.int .i64 10, .int .i64 key, .int .i64 ch, .int .i64 too, .int .i64 amt, .int .i64 fee, .bool yes]] w fun e w' => e = .returned (.bool (evOk 10 key ch too amt fee yes)) ∧ Below w.heap.size w w' := by
  have hr := Lib.hid (evOk_k10 key ch too amt fee yes)
  go_enter Tryz.func83, Tryz.ntmps83
  go_wp2_with (((first | (go_at_call 47; refine (amtOk_impl _ _).mono ?_) | (go_at_call 124; refine (isChan_impl _ _).mono ?_) | (go_at_call 125; refine (isKey_impl _ _).mono ?_)); rintro e w1 ⟨rfl, rfl⟩))
  all_goals
    go_ret
    refine ⟨ret_bool ?_, by (repeat (first | (with_reducible exact Below.refl _ _) | (with_reducible assumption) | (with_reducible refine Below.setCell ?_ ?side _; case side => first | (with_reducible exact Nat.le_refl _) | (simp; done) | (simp only [World.size_alloc, World.size_setCell, World.size_drew, World.heap_drewN] at *; omega)) | (with_reducible refine below_alloc ?_ _) | (with_reducible refine Below.drew ?_) | (with_reducible refine below_drewN ?_) | (with_reducible refine below_via (by assumption) ?_)))⟩
    rw [hr.out]
    clear hr
    (try simp only [amtOk, keyOk, chanOk, inB, decide_eq_true_eq, decide_eq_false_iff_not, bne_iff_ne, beq_iff_eq, ne_eq, Bool.not_eq_true, Bool.not_eq_false, Bool.false_eq_true, not_false_eq_true, not_true_eq_false, Bool.true_eq_false] at *)
    first | exact tt (by first | omega | (simp_all <;> omega)) | exact ff (by first | omega | (simp_all <;> omega)) | (rw [Bool.eq_iff_iff]; simp_all <;> omega)
set_option maxRecDepth 100000 in
set_option maxHeartbeats 3200000 in
theorem evOk_impl11 (key ch too amt fee : Int) (yes : Bool) (w : World) : Calls Tryz.prog 83 #[.agg #[.int .i64 11, .int .i64 key, .int .i64 ch, .int .i64 too, .int .i64 amt, .int .i64 fee, .bool yes]] w fun e w' => e = .returned (.bool (evOk 11 key ch too amt fee yes)) ∧ Below w.heap.size w w' := by
  have hr := Lib.hid (evOk_k11 key ch too amt fee yes)
  go_enter Tryz.func83, Tryz.ntmps83
  go_wp2_with (((first | (go_at_call 47; refine (amtOk_impl _ _).mono ?_) | (go_at_call 124; refine (isChan_impl _ _).mono ?_) | (go_at_call 125; refine (isKey_impl _ _).mono ?_)); rintro e w1 ⟨rfl, rfl⟩))
  all_goals
    go_ret
    refine ⟨ret_bool ?_, by (repeat (first | (with_reducible exact Below.refl _ _) | (with_reducible assumption) | (with_reducible refine Below.setCell ?_ ?side _; case side => first | (with_reducible exact Nat.le_refl _) | (simp; done) | (simp only [World.size_alloc, World.size_setCell, World.size_drew, World.heap_drewN] at *; omega)) | (with_reducible refine below_alloc ?_ _) | (with_reducible refine Below.drew ?_) | (with_reducible refine below_drewN ?_) | (with_reducible refine below_via (by assumption) ?_)))⟩
    rw [hr.out]
    clear hr
    (try simp only [amtOk, keyOk, chanOk, inB, decide_eq_true_eq, decide_eq_false_iff_not, bne_iff_ne, beq_iff_eq, ne_eq, Bool.not_eq_true, Bool.not_eq_false, Bool.false_eq_true, not_false_eq_true, not_true_eq_false, Bool.true_eq_false] at *)
    first | exact tt (by first | omega | (simp_all <;> omega)) | exact ff (by first | omega | (simp_all <;> omega)) | (rw [Bool.eq_iff_iff]; simp_all <;> omega)

set_option maxRecDepth 100000 in
set_option maxHeartbeats 3200000 in
theorem evOk_impl5 (key ch too amt fee : Int) (yes : Bool) (w : World) : Calls Tryz.prog 83 #[.agg #[.int .i64 5, .int .i64 key, .int .i64 ch, .int .i64 too, .int .i64 amt, .int .i64 fee, .bool yes]] w fun e w' => e = .returned (.bool (evOk 5 key ch too amt fee yes)) ∧ Below w.heap.size w w' := by
  have hr := Lib.hid (evOk_k5 key ch too amt fee yes)
  go_enter Tryz.func83, Tryz.ntmps83
  go_wp2_with (((first | (go_at_call 47; refine (amtOk_impl _ _).mono ?_) | (go_at_call 124; refine (isChan_impl _ _).mono ?_) | (go_at_call 125; refine (isKey_impl _ _).mono ?_)); rintro e w1 ⟨rfl, rfl⟩))
  all_goals (try (go_region; all_goals go_wp2_with (((first | (go_at_call 47; refine (amtOk_impl _ _).mono ?_) | (go_at_call 124; refine (isChan_impl _ _).mono ?_) | (go_at_call 125; refine (isKey_impl _ _).mono ?_)); rintro e w1 ⟨rfl, rfl⟩))))
  all_goals
    go_ret
    refine ⟨ret_bool ?_, by (repeat (first | (with_reducible exact Below.refl _ _) | (with_reducible assumption) | (with_reducible refine Below.setCell ?_ ?side _; case side => first | (with_reducible exact Nat.le_refl _) | (simp; done) | (simp only [World.size_alloc, World.size_setCell, World.size_drew, World.heap_drewN] at *; omega)) | (with_reducible refine below_alloc ?_ _) | (with_reducible refine Below.drew ?_) | (with_reducible refine below_drewN ?_) | (with_reducible refine below_via (by assumption) ?_)))⟩
    rw [hr.out]
    clear hr
    (try simp only [amtOk, keyOk, chanOk, inB, decide_eq_true_eq, decide_eq_false_iff_not, bne_iff_ne, beq_iff_eq, ne_eq, Bool.not_eq_true, Bool.not_eq_false, Bool.false_eq_true, not_false_eq_true, not_true_eq_false, Bool.true_eq_false] at *)
    first | exact tt (by first | omega | (simp_all <;> omega)) | exact ff (by first | omega | (simp_all <;> omega)) | (rw [Bool.eq_iff_iff]; simp_all <;> omega)

set_option maxRecDepth 100000 in
set_option maxHeartbeats 3200000 in
theorem evOk_impl9 (key ch too amt fee : Int) (yes : Bool) (w : World) : Calls Tryz.prog 83 #[.agg #[.int .i64 9, .int .i64 key, .int .i64 ch, .int .i64 too, .int .i64 amt, .int .i64 fee, .bool yes]] w fun e w' => e = .returned (.bool (evOk 9 key ch too amt fee yes)) ∧ Below w.heap.size w w' := by
  have hr := Lib.hid (evOk_k9 key ch too amt fee yes)
  go_enter Tryz.func83, Tryz.ntmps83
  go_wp2_with (((first | (go_at_call 47; refine (amtOk_impl _ _).mono ?_) | (go_at_call 124; refine (isChan_impl _ _).mono ?_) | (go_at_call 125; refine (isKey_impl _ _).mono ?_)); rintro e w1 ⟨rfl, rfl⟩))
  all_goals (try (go_region; all_goals go_wp2_with (((first | (go_at_call 47; refine (amtOk_impl _ _).mono ?_) | (go_at_call 124; refine (isChan_impl _ _).mono ?_) | (go_at_call 125; refine (isKey_impl _ _).mono ?_)); rintro e w1 ⟨rfl, rfl⟩))))
  all_goals
    go_ret
    refine ⟨ret_bool ?_, by (repeat (first | (with_reducible exact Below.refl _ _) | (with_reducible assumption) | (with_reducible refine Below.setCell ?_ ?side _; case side => first | (with_reducible exact Nat.le_refl _) | (simp; done) | (simp only [World.size_alloc, World.size_setCell, World.size_drew, World.heap_drewN] at *; omega)) | (with_reducible refine below_alloc ?_ _) | (with_reducible refine Below.drew ?_) | (with_reducible refine below_drewN ?_) | (with_reducible refine below_via (by assumption) ?_)))⟩
    rw [hr.out]
    clear hr
    (try simp only [amtOk, keyOk, chanOk, inB, decide_eq_true_eq, decide_eq_false_iff_not, bne_iff_ne, beq_iff_eq, ne_eq, Bool.not_eq_true, Bool.not_eq_false, Bool.false_eq_true, not_false_eq_true, not_true_eq_false, Bool.true_eq_false] at *)
    first | exact tt (by first | omega | (simp_all <;> omega)) | exact ff (by first | omega | (simp_all <;> omega)) | (rw [Bool.eq_iff_iff]; simp_all <;> omega)

abbrev PtS (g : Nat) := FS (fun (j : Nat) => [Value.pointer (some ⟨g, j, none⟩)]) 1 (fun _ => True)
set_option maxHeartbeats 1600000 in
theorem numbers_impl (k : Int) (g : Nat) (w : World) (hc : w.cell? ⟨g, 0, none⟩ = some (.int .i64 k)) (hg : g < w.heap.size) : Calls Tryz.prog 84 #[.pointer (some ⟨g, 0, none⟩)] w fun e w' => (∃ a, e = .returned (.slice a (sel (hasF k) [1, 2, 3, 4, 5]).length (sel (hasF k) [1, 2, 3, 4, 5]).length) ∧ PtS g w' w'.heap.size a (sel (hasF k) [1, 2, 3, 4, 5]).length (sel (hasF k) [1, 2, 3, 4, 5]) ∧ ∀ b o, a = some ⟨b, o, none⟩ → w.heap.size ≤ b) ∧ Below w.heap.size w w' := by
  rcases (show k = 1 ∨ k = 2 ∨ k = 4 ∨ k = 3 ∨ k = 5 ∨ k = 9 ∨ k = 8 ∨ (k ≠ 1 ∧ k ≠ 2 ∧ k ≠ 4 ∧ k ≠ 3 ∧ k ≠ 5 ∧ k ≠ 9 ∧ k ≠ 8) by omega) with rfl | rfl | rfl | rfl | rfl | rfl | rfl | ⟨h1, h2, h4, h3, h5, h9, h8⟩
  iterate 6
    · go_enter Tryz.func84, Tryz.ntmps84
      go_wp2
      all_goals (try (go_region; all_goals go_wp2))
      all_goals
        refine bodyPost_ret (by simp only [results, Tryz.results84]; go_simp; rfl) rfl ?_
        exact ⟨⟨_, rfl, FS.lit1 (fun j => Value.pointer (some ⟨g, j, none⟩)) _ _ _ _ rfl _ rfl (by decide) _ rfl, fun b o h => by injection h with h; injection h with h; rw [← h]; (first | exact Nat.le_refl _ | simp)⟩, by (repeat (first | (with_reducible exact Below.refl _ _) | (with_reducible assumption) | (with_reducible refine Below.setCell ?_ ?side _; case side => first | (with_reducible exact Nat.le_refl _) | (simp; done) | (simp only [World.size_alloc, World.size_setCell, World.size_drew, World.heap_drewN] at *; omega)) | (with_reducible refine below_alloc ?_ _) | (with_reducible refine Below.drew ?_) | (with_reducible refine below_drewN ?_) | (with_reducible refine below_via (by assumption) ?_)))⟩
  · go_enter Tryz.func84, Tryz.ntmps84
    go_wp2
    refine bodyPost_ret (by simp only [results, Tryz.results84]; go_simp; rfl) rfl ?_
    exact ⟨⟨_, rfl, FS.nil _ _ _, fun b o h => by cases h⟩, by (repeat (first | (with_reducible exact Below.refl _ _) | (with_reducible assumption) | (with_reducible refine Below.setCell ?_ ?side _; case side => first | (with_reducible exact Nat.le_refl _) | (simp; done) | (simp only [World.size_alloc, World.size_setCell, World.size_drew, World.heap_drewN] at *; omega)) | (with_reducible refine below_alloc ?_ _) | (with_reducible refine Below.drew ?_) | (with_reducible refine below_drewN ?_) | (with_reducible refine below_via (by assumption) ?_)))⟩
  · have e : hasF k = [true, false, false, false, false, false] := by unfold hasF; rw [if_neg h1, if_neg (by omega), if_neg h3, if_neg h5, if_neg h9, if_neg h8]
    rw [e]
    go_enter Tryz.func84, Tryz.ntmps84
    go_wp2
    refine bodyPost_ret (by simp only [results, Tryz.results84]; go_simp; rfl) rfl ?_
    exact ⟨⟨_, rfl, FS.lit1 (fun j => Value.pointer (some ⟨g, j, none⟩)) _ _ _ _ rfl _ rfl (by decide) _ rfl, fun b o h => by injection h with h; injection h with h; rw [← h]; (first | exact Nat.le_refl _ | simp)⟩, by (repeat (first | (with_reducible exact Below.refl _ _) | (with_reducible assumption) | (with_reducible refine Below.setCell ?_ ?side _; case side => first | (with_reducible exact Nat.le_refl _) | (simp; done) | (simp only [World.size_alloc, World.size_setCell, World.size_drew, World.heap_drewN] at *; omega)) | (with_reducible refine below_alloc ?_ _) | (with_reducible refine Below.drew ?_) | (with_reducible refine below_drewN ?_) | (with_reducible refine below_via (by assumption) ?_)))⟩

set_option maxRecDepth 100000 in
set_option maxHeartbeats 1600000 in
theorem evOk_impl (k key ch too amt fee : Int) (yes : Bool) (w : World) : Calls Tryz.prog 83 #[.agg #[.int .i64 k, .int .i64 key, .int .i64 ch, .int .i64 too, .int .i64 amt, .int .i64 fee, .bool yes]] w fun e w' => e = .returned (.bool (evOk k key ch too amt fee yes)) ∧ Below w.heap.size w w' := by
  rcases (show k = 1 ∨ k = 2 ∨ k = 3 ∨ k = 4 ∨ k = 5 ∨ k = 6 ∨ k = 7 ∨ k = 8 ∨ k = 9 ∨ k = 10 ∨ k = 11 ∨ (k ≠ 1 ∧ k ≠ 2 ∧ k ≠ 3 ∧ k ≠ 4 ∧ k ≠ 5 ∧ k ≠ 6 ∧ k ≠ 7 ∧ k ≠ 8 ∧ k ≠ 9 ∧ k ≠ 10 ∧ k ≠ 11) by omega) with rfl | rfl | rfl | rfl | rfl | rfl | rfl | rfl | rfl | rfl | rfl | ⟨g1, g2, g3, g4, g5, g6, g7, g8, g9, g10, g11⟩
  · exact evOk_impl1 key ch too amt fee yes w
  · exact evOk_impl2 key ch too amt fee yes w
  · exact evOk_impl3 key ch too amt fee yes w
  · exact evOk_impl4 key ch too amt fee yes w
  · exact evOk_impl5 key ch too amt fee yes w
  · exact evOk_impl6 key ch too amt fee yes w
  · exact evOk_impl7 key ch too amt fee yes w
  · exact evOk_impl8 key ch too amt fee yes w
  · exact evOk_impl9 key ch too amt fee yes w
  · exact evOk_impl10 key ch too amt fee yes w
  · exact evOk_impl11 key ch too amt fee yes w
  · have hr : Hid (evOk k key ch too amt fee yes = false) := by unfold Hid evOk; rw [decide_eq_false (by omega)]; rfl
    go_enter Tryz.func83, Tryz.ntmps83
    go_wp2_with (((first | (go_at_call 47; refine (amtOk_impl _ _).mono ?_) | (go_at_call 124; refine (isChan_impl _ _).mono ?_) | (go_at_call 125; refine (isKey_impl _ _).mono ?_)); rintro e w1 ⟨rfl, rfl⟩))
    all_goals
      go_ret
      exact ⟨by rw [hr.out]; rfl, by (repeat (first | (with_reducible exact Below.refl _ _) | (with_reducible assumption) | (with_reducible refine Below.setCell ?_ ?side _; case side => first | (with_reducible exact Nat.le_refl _) | (simp; done) | (simp only [World.size_alloc, World.size_setCell, World.size_drew, World.heap_drewN] at *; omega)) | (with_reducible refine below_alloc ?_ _) | (with_reducible refine Below.drew ?_) | (with_reducible refine below_drewN ?_) | (with_reducible refine below_via (by assumption) ?_)))⟩

/-- the powers of ten, and the greatest length of a text that is sought -/
structure PM (w : World) : Prop where
  pow : Pow w
  mx : ∃ m, w.cell? ⟨0, 0, none⟩ = some (.int .i64 m)
theorem PM.keep {w w' : World} (h : PM w) (hb : Below w.heap.size w w') : PM w' := by
  obtain ⟨a, ⟨m, h3⟩⟩ := h
  exact ⟨a.keep hb, ⟨_, keep_cell h3 hb⟩⟩
theorem evWords_words : words [32, 100, 101, 112, 111, 115, 105, 116, 32, 111, 112, 101, 110, 32, 99, 108, 111, 115, 101, 32, 112, 114, 105, 99, 101, 32, 97, 100, 109, 105, 116, 32, 102, 117, 108, 102, 105, 108, 108, 32, 102, 97, 105, 108, 32, 116, 105, 99, 107, 32, 108, 97, 117, 110, 99, 104, 32, 97, 114, 114, 105, 118, 101, 32, 108, 111, 115, 116] = evWords := by decide +kernel
theorem splitWords (w : World) (mx : ∃ m, w.cell? ⟨0, 0, none⟩ = some (.int .i64 m)) : Calls Tryz.prog 49 #[.string ⟨#[32, 100, 101, 112, 111, 115, 105, 116, 32, 111, 112, 101, 110, 32, 99, 108, 111, 115, 101, 32, 112, 114, 105, 99, 101, 32, 97, 100, 109, 105, 116, 32, 102, 117, 108, 102, 105, 108, 108, 32, 102, 97, 105, 108, 32, 116, 105, 99, 107, 32, 108, 97, 117, 110, 99, 104, 32, 97, 114, 114, 105, 118, 101, 32, 108, 111, 115, 116]⟩, .string ⟨#[32]⟩] w fun e w' =>
    (∃ g off c, e = .returned (.slice (some ⟨g, off, none⟩) 12 c) ∧ ∀ n : Nat, n < 12 → w'.cell? ⟨g, off + n, none⟩ = some (.string (S (evWord n)))) ∧ Below w.heap.size w w' := by
  refine (split_mx _ (by decide) w mx).mono ?_
  rintro e w' ⟨⟨v, rfl, hown⟩, b⟩
  obtain ⟨a, c, rfl, ho⟩ := OwnF.of (ok := fun _ => True) hown (fun _ _ => trivial)
  have F := OF.fs lenS ho
  have e : (words (ByteArray.data ⟨#[32, 100, 101, 112, 111, 115, 105, 116, 32, 111, 112, 101, 110, 32, 99, 108, 111, 115, 101, 32, 112, 114, 105, 99, 101, 32, 97, 100, 109, 105, 116, 32, 102, 117, 108, 102, 105, 108, 108, 32, 102, 97, 105, 108, 32, 116, 105, 99, 107, 32, 108, 97, 117, 110, 99, 104, 32, 97, 114, 114, 105, 118, 101, 32, 108, 111, 115, 116]⟩).toList).map S = evWords.map S := congrArg (List.map S) evWords_words
  rw [e] at F ho
  have hl : (evWords.map S).length = 12 := rfl
  rw [hl] at F
  obtain ⟨bk, off, x, ea, hb, hc, -⟩ := F.at_ (k := 0) (by omega)
  subst ea
  refine ⟨⟨bk, off, c, by rw [e, hl], fun n hn => ?_⟩, b⟩
  obtain ⟨b2, o2, e2, -, hc2⟩ := F.2.2.2 n _ (evWord_get n hn)
  injection e2 with e2
  injection e2 with q1 q2
  subst q1
  subst q2
  have := hc2 0 _ rfl
  rw [show off + n * 1 + 0 = off + n by omega] at this
  exact this

end Go.Proofs.YtafbdbefmlgioaaGreatDoor
