/- Events: which are right. -/
import Derived.Test.YtafbdbefmlgioaaGreatDoorEvA
import Derived.Deep.QuietTactic
import Derived.BigQuiet
namespace Go.Proofs.YtafbdbefmlgioaaGreatDoor
open Go.RowKit
set_option linter.unusedVariables false
set_option linter.unusedSimpArgs false

theorem BoS.cell {w : World} {B g n : Nat} {xs : List Bool} (h : BoS w B (some ⟨g, 0, none⟩) n xs) (j : Nat) (v : Bool) (hj : xs[j]? = some v) : w.cell? ⟨g, j, none⟩ = some (.bool v) := by
  obtain ⟨b, off, e, hb, hc⟩ := h.2.2.2 j v hj
  injection e with e
  injection e with e1 e2
  subst e1
  subst e2
  have := hc 0 _ rfl
  rw [show 0 + j * 1 + 0 = j by omega] at this
  exact this

theorem cell_drewN (w : World) (n : Nat) (a : Addr) : (w.drewN n).cell? a = w.cell? a := by simp [go_sem]
theorem field_q (h : Bool) (n lo hi : Int) (v : Bool) (hv : fld h n lo hi = v) (w : World) : Calls Tryz.prog 145 #[.bool h, .int .i64 n, .int .i64 lo, .int .i64 hi] w fun e w' => e = .returned (.bool v) ∧ w' = w :=
  (field_any h n lo hi w).mono fun e w' ⟨he, hw⟩ => ⟨by rw [he, hv], hw.symm⟩

set_option maxRecDepth 100000 in
set_option maxHeartbeats 6400000 in
theorem evOk_spec4 (key ch too amt fee : Int) (yes : Bool) (w : World) : Calls Tryz.prog 116 #[.agg #[.int .i64 4, .int .i64 key, .int .i64 ch, .int .i64 too, .int .i64 amt, .int .i64 fee, .bool yes]] w fun e w' => e = .returned (.bool (evOk 4 key ch too amt fee yes)) ∧ Below w.heap.size w w' := by
  have hl := hasF_len 4
  obtain ⟨h0, h1, h2, h3, h4, h5, hh⟩ : ∃ h0 h1 h2 h3 h4 h5, hasF 4 = [h0, h1, h2, h3, h4, h5] := by
    match hasF 4, hl with
    | [h0, h1, h2, h3, h4, h5], _ => exact ⟨h0, h1, h2, h3, h4, h5, rfl⟩
  obtain ⟨v0, H0⟩ : ∃ v, v = fld h0 key 1 1000000 := ⟨_, rfl⟩
  obtain ⟨v1, H1⟩ : ∃ v, v = fld h1 ch 1 99 := ⟨_, rfl⟩
  obtain ⟨v2, H2⟩ : ∃ v, v = fld h2 too 1 99 := ⟨_, rfl⟩
  obtain ⟨v3, H3⟩ : ∃ v, v = fld h3 amt 0 1125899906842624 := ⟨_, rfl⟩
  obtain ⟨v4, H4⟩ : ∃ v, v = fld h4 fee 0 1000000 := ⟨_, rfl⟩
  have hr : Hid (evOk 4 key ch too amt fee yes = (v0 && v1 && v2 && !(h2 && decide (ch = too)) && v3 && v4 && (h5 || !yes))) := by
    unfold Hid evOk
    rw [hh, decide_eq_true (show (1:Int) ≤ 4 ∧ (4:Int) ≤ 11 by omega), Bool.true_and, if_pos rfl, if_pos rfl, H0, H1, H2, H3, H4]
  replace H0 := Lib.hid H0.symm
  replace H1 := Lib.hid H1.symm
  replace H2 := Lib.hid H2.symm
  replace H3 := Lib.hid H3.symm
  replace H4 := Lib.hid H4.symm
  go_enter Tryz.func116, Tryz.ntmps116
  go_wp2_with fail
  refine (l04Has_any _ _).mono ?_
  rintro e w1 ⟨⟨g, rfl, F⟩, b1⟩
  rw [hh] at F
  have B1 := below_via b1 (by (repeat (first | (with_reducible exact Below.refl _ _) | (with_reducible assumption) | (with_reducible refine Below.setCell ?_ ?side _; case side => first | (with_reducible exact Nat.le_refl _) | (simp; done) | (simp only [World.size_alloc, World.size_setCell, World.size_drew, World.heap_drewN] at *; omega)) | (with_reducible refine below_alloc ?_ _) | (with_reducible refine Below.drew ?_) | (with_reducible refine below_drewN ?_) | (with_reducible refine below_via (by assumption) ?_))) : Below w.heap.size w _)
  obtain ⟨hc0, hf0, hs0, hz0⟩ := brules b1
  have c := fun (j : Nat) (v : Bool) (hj : [h0, h1, h2, h3, h4, h5][j]? = some v) => BoS.cell F j v hj
  have c0 := c 0 h0 rfl
  have c1 := c 1 h1 rfl
  have c2 := c 2 h2 rfl
  have c3 := c 3 h3 rfl
  have c4 := c 4 h4 rfl
  have c5 := c 5 h5 rfl
  clear c F hh hl
  have d0 : w1.cell? ⟨w.heap.size, 0, none⟩ = some (.int .i64 4) := by rw [hc0 _ _ (by simp)]; simp [go_sem]
  have d1 : w1.cell? ⟨w.heap.size, 1, none⟩ = some (.int .i64 key) := by rw [hc0 _ _ (by simp)]; simp [go_sem]
  have d2 : w1.cell? ⟨w.heap.size, 2, none⟩ = some (.int .i64 ch) := by rw [hc0 _ _ (by simp)]; simp [go_sem]
  have d3 : w1.cell? ⟨w.heap.size, 3, none⟩ = some (.int .i64 too) := by rw [hc0 _ _ (by simp)]; simp [go_sem]
  have d4 : w1.cell? ⟨w.heap.size, 4, none⟩ = some (.int .i64 amt) := by rw [hc0 _ _ (by simp)]; simp [go_sem]
  have d5 : w1.cell? ⟨w.heap.size, 5, none⟩ = some (.int .i64 fee) := by rw [hc0 _ _ (by simp)]; simp [go_sem]
  have d6 : w1.cell? ⟨w.heap.size, 6, none⟩ = some (.bool yes) := by rw [hc0 _ _ (by simp)]; simp [go_sem]
  cases v0 with
  | false =>
    go_wp2_with fail
    go_quiet ((go_at_call 145; first | with_reducible exact Calls.quiet_of_same (field_q _ _ _ _ _ H0.out _) | with_reducible exact Calls.quiet_of_same (field_q _ _ _ _ _ H1.out _) | with_reducible exact Calls.quiet_of_same (field_q _ _ _ _ _ H2.out _) | with_reducible exact Calls.quiet_of_same (field_q _ _ _ _ _ H3.out _) | with_reducible exact Calls.quiet_of_same (field_q _ _ _ _ _ H4.out _)))
    go_wp2_with fail
    go_ret
    exact ⟨by rw [hr.out]; rfl, by (repeat (first | (with_reducible exact Below.refl _ _) | (with_reducible assumption) | (with_reducible refine Below.setCell ?_ ?side _; case side => first | (with_reducible exact Nat.le_refl _) | (simp; done) | (simp only [World.size_alloc, World.size_setCell, World.size_drew, World.heap_drewN] at *; omega)) | (with_reducible refine below_alloc ?_ _) | (with_reducible refine Below.drew ?_) | (with_reducible refine below_drewN ?_) | (with_reducible refine below_via (by assumption) ?_)))⟩
  | true =>
    cases v1 with
    | false =>
      go_wp2_with fail
      go_quiet ((go_at_call 145; first | with_reducible exact Calls.quiet_of_same (field_q _ _ _ _ _ H0.out _) | with_reducible exact Calls.quiet_of_same (field_q _ _ _ _ _ H1.out _) | with_reducible exact Calls.quiet_of_same (field_q _ _ _ _ _ H2.out _) | with_reducible exact Calls.quiet_of_same (field_q _ _ _ _ _ H3.out _) | with_reducible exact Calls.quiet_of_same (field_q _ _ _ _ _ H4.out _)))
      go_wp2_with fail
      go_ret
      exact ⟨by rw [hr.out]; rfl, by (repeat (first | (with_reducible exact Below.refl _ _) | (with_reducible assumption) | (with_reducible refine Below.setCell ?_ ?side _; case side => first | (with_reducible exact Nat.le_refl _) | (simp; done) | (simp only [World.size_alloc, World.size_setCell, World.size_drew, World.heap_drewN] at *; omega)) | (with_reducible refine below_alloc ?_ _) | (with_reducible refine Below.drew ?_) | (with_reducible refine below_drewN ?_) | (with_reducible refine below_via (by assumption) ?_)))⟩
    | true =>
      cases v2 with
      | false =>
        go_wp2_with fail
        go_quiet ((go_at_call 145; first | with_reducible exact Calls.quiet_of_same (field_q _ _ _ _ _ H0.out _) | with_reducible exact Calls.quiet_of_same (field_q _ _ _ _ _ H1.out _) | with_reducible exact Calls.quiet_of_same (field_q _ _ _ _ _ H2.out _) | with_reducible exact Calls.quiet_of_same (field_q _ _ _ _ _ H3.out _) | with_reducible exact Calls.quiet_of_same (field_q _ _ _ _ _ H4.out _)))
        go_wp2_with fail
        go_ret
        exact ⟨by rw [hr.out]; rfl, by (repeat (first | (with_reducible exact Below.refl _ _) | (with_reducible assumption) | (with_reducible refine Below.setCell ?_ ?side _; case side => first | (with_reducible exact Nat.le_refl _) | (simp; done) | (simp only [World.size_alloc, World.size_setCell, World.size_drew, World.heap_drewN] at *; omega)) | (with_reducible refine below_alloc ?_ _) | (with_reducible refine Below.drew ?_) | (with_reducible refine below_drewN ?_) | (with_reducible refine below_via (by assumption) ?_)))⟩
      | true =>
        cases h2 with
        | false =>
          cases v3 with
          | false =>
            go_wp2_with fail
            go_quiet ((go_at_call 145; first | with_reducible exact Calls.quiet_of_same (field_q _ _ _ _ _ H0.out _) | with_reducible exact Calls.quiet_of_same (field_q _ _ _ _ _ H1.out _) | with_reducible exact Calls.quiet_of_same (field_q _ _ _ _ _ H2.out _) | with_reducible exact Calls.quiet_of_same (field_q _ _ _ _ _ H3.out _) | with_reducible exact Calls.quiet_of_same (field_q _ _ _ _ _ H4.out _)))
            go_wp2_with fail
            have BW : Below w.heap.size w (w1.drewN nq) := by (repeat (first | (with_reducible exact Below.refl _ _) | (with_reducible assumption) | (with_reducible refine Below.setCell ?_ ?side _; case side => first | (with_reducible exact Nat.le_refl _) | (simp; done) | (simp only [World.size_alloc, World.size_setCell, World.size_drew, World.heap_drewN] at *; omega)) | (with_reducible refine below_alloc ?_ _) | (with_reducible refine Below.drew ?_) | (with_reducible refine below_drewN ?_) | (with_reducible refine below_via (by assumption) ?_)))
            replace c0 := (cell_drewN w1 nq ⟨g, 0, none⟩).trans c0
            replace c1 := (cell_drewN w1 nq ⟨g, 1, none⟩).trans c1
            replace c3 := (cell_drewN w1 nq ⟨g, 3, none⟩).trans c3
            replace c4 := (cell_drewN w1 nq ⟨g, 4, none⟩).trans c4
            replace c5 := (cell_drewN w1 nq ⟨g, 5, none⟩).trans c5
            replace d0 := (cell_drewN w1 nq ⟨w.heap.size, 0, none⟩).trans d0
            replace d1 := (cell_drewN w1 nq ⟨w.heap.size, 1, none⟩).trans d1
            replace d2 := (cell_drewN w1 nq ⟨w.heap.size, 2, none⟩).trans d2
            replace d3 := (cell_drewN w1 nq ⟨w.heap.size, 3, none⟩).trans d3
            replace d4 := (cell_drewN w1 nq ⟨w.heap.size, 4, none⟩).trans d4
            replace d5 := (cell_drewN w1 nq ⟨w.heap.size, 5, none⟩).trans d5
            replace d6 := (cell_drewN w1 nq ⟨w.heap.size, 6, none⟩).trans d6
            clear b1 B1 hc0 hf0 hs0 hz0 c2
            generalize w1.drewN nq = W at *
            go_quiet ((go_at_call 145; first | with_reducible exact Calls.quiet_of_same (field_q _ _ _ _ _ H0.out _) | with_reducible exact Calls.quiet_of_same (field_q _ _ _ _ _ H1.out _) | with_reducible exact Calls.quiet_of_same (field_q _ _ _ _ _ H2.out _) | with_reducible exact Calls.quiet_of_same (field_q _ _ _ _ _ H3.out _) | with_reducible exact Calls.quiet_of_same (field_q _ _ _ _ _ H4.out _)))
            go_wp2_with fail
            go_ret
            exact ⟨by rw [hr.out]; rfl, by (repeat (first | (with_reducible exact Below.refl _ _) | (with_reducible assumption) | (with_reducible refine Below.setCell ?_ ?side _; case side => first | (with_reducible exact Nat.le_refl _) | (simp; done) | (simp only [World.size_alloc, World.size_setCell, World.size_drew, World.heap_drewN] at *; omega)) | (with_reducible refine below_alloc ?_ _) | (with_reducible refine Below.drew ?_) | (with_reducible refine below_drewN ?_) | (with_reducible refine below_via (by assumption) ?_)))⟩
          | true =>
            cases v4 with
            | false =>
              go_wp2_with fail
              go_quiet ((go_at_call 145; first | with_reducible exact Calls.quiet_of_same (field_q _ _ _ _ _ H0.out _) | with_reducible exact Calls.quiet_of_same (field_q _ _ _ _ _ H1.out _) | with_reducible exact Calls.quiet_of_same (field_q _ _ _ _ _ H2.out _) | with_reducible exact Calls.quiet_of_same (field_q _ _ _ _ _ H3.out _) | with_reducible exact Calls.quiet_of_same (field_q _ _ _ _ _ H4.out _)))
              go_wp2_with fail
              have BW : Below w.heap.size w (w1.drewN nq) := by (repeat (first | (with_reducible exact Below.refl _ _) | (with_reducible assumption) | (with_reducible refine Below.setCell ?_ ?side _; case side => first | (with_reducible exact Nat.le_refl _) | (simp; done) | (simp only [World.size_alloc, World.size_setCell, World.size_drew, World.heap_drewN] at *; omega)) | (with_reducible refine below_alloc ?_ _) | (with_reducible refine Below.drew ?_) | (with_reducible refine below_drewN ?_) | (with_reducible refine below_via (by assumption) ?_)))
              replace c0 := (cell_drewN w1 nq ⟨g, 0, none⟩).trans c0
              replace c1 := (cell_drewN w1 nq ⟨g, 1, none⟩).trans c1
              replace c3 := (cell_drewN w1 nq ⟨g, 3, none⟩).trans c3
              replace c4 := (cell_drewN w1 nq ⟨g, 4, none⟩).trans c4
              replace c5 := (cell_drewN w1 nq ⟨g, 5, none⟩).trans c5
              replace d0 := (cell_drewN w1 nq ⟨w.heap.size, 0, none⟩).trans d0
              replace d1 := (cell_drewN w1 nq ⟨w.heap.size, 1, none⟩).trans d1
              replace d2 := (cell_drewN w1 nq ⟨w.heap.size, 2, none⟩).trans d2
              replace d3 := (cell_drewN w1 nq ⟨w.heap.size, 3, none⟩).trans d3
              replace d4 := (cell_drewN w1 nq ⟨w.heap.size, 4, none⟩).trans d4
              replace d5 := (cell_drewN w1 nq ⟨w.heap.size, 5, none⟩).trans d5
              replace d6 := (cell_drewN w1 nq ⟨w.heap.size, 6, none⟩).trans d6
              clear b1 B1 hc0 hf0 hs0 hz0 c2
              generalize w1.drewN nq = W at *
              go_quiet ((go_at_call 145; first | with_reducible exact Calls.quiet_of_same (field_q _ _ _ _ _ H0.out _) | with_reducible exact Calls.quiet_of_same (field_q _ _ _ _ _ H1.out _) | with_reducible exact Calls.quiet_of_same (field_q _ _ _ _ _ H2.out _) | with_reducible exact Calls.quiet_of_same (field_q _ _ _ _ _ H3.out _) | with_reducible exact Calls.quiet_of_same (field_q _ _ _ _ _ H4.out _)))
              go_wp2_with fail
              go_ret
              exact ⟨by rw [hr.out]; rfl, by (repeat (first | (with_reducible exact Below.refl _ _) | (with_reducible assumption) | (with_reducible refine Below.setCell ?_ ?side _; case side => first | (with_reducible exact Nat.le_refl _) | (simp; done) | (simp only [World.size_alloc, World.size_setCell, World.size_drew, World.heap_drewN] at *; omega)) | (with_reducible refine below_alloc ?_ _) | (with_reducible refine Below.drew ?_) | (with_reducible refine below_drewN ?_) | (with_reducible refine below_via (by assumption) ?_)))⟩
            | true =>
              cases h5 with
              | false =>
                cases yes with
                | false =>
                  go_wp2_with fail
                  go_quiet ((go_at_call 145; first | with_reducible exact Calls.quiet_of_same (field_q _ _ _ _ _ H0.out _) | with_reducible exact Calls.quiet_of_same (field_q _ _ _ _ _ H1.out _) | with_reducible exact Calls.quiet_of_same (field_q _ _ _ _ _ H2.out _) | with_reducible exact Calls.quiet_of_same (field_q _ _ _ _ _ H3.out _) | with_reducible exact Calls.quiet_of_same (field_q _ _ _ _ _ H4.out _)))
                  go_wp2_with fail
                  have BW : Below w.heap.size w (w1.drewN nq) := by (repeat (first | (with_reducible exact Below.refl _ _) | (with_reducible assumption) | (with_reducible refine Below.setCell ?_ ?side _; case side => first | (with_reducible exact Nat.le_refl _) | (simp; done) | (simp only [World.size_alloc, World.size_setCell, World.size_drew, World.heap_drewN] at *; omega)) | (with_reducible refine below_alloc ?_ _) | (with_reducible refine Below.drew ?_) | (with_reducible refine below_drewN ?_) | (with_reducible refine below_via (by assumption) ?_)))
                  replace c0 := (cell_drewN w1 nq ⟨g, 0, none⟩).trans c0
                  replace c1 := (cell_drewN w1 nq ⟨g, 1, none⟩).trans c1
                  replace c3 := (cell_drewN w1 nq ⟨g, 3, none⟩).trans c3
                  replace c4 := (cell_drewN w1 nq ⟨g, 4, none⟩).trans c4
                  replace c5 := (cell_drewN w1 nq ⟨g, 5, none⟩).trans c5
                  replace d0 := (cell_drewN w1 nq ⟨w.heap.size, 0, none⟩).trans d0
                  replace d1 := (cell_drewN w1 nq ⟨w.heap.size, 1, none⟩).trans d1
                  replace d2 := (cell_drewN w1 nq ⟨w.heap.size, 2, none⟩).trans d2
                  replace d3 := (cell_drewN w1 nq ⟨w.heap.size, 3, none⟩).trans d3
                  replace d4 := (cell_drewN w1 nq ⟨w.heap.size, 4, none⟩).trans d4
                  replace d5 := (cell_drewN w1 nq ⟨w.heap.size, 5, none⟩).trans d5
                  replace d6 := (cell_drewN w1 nq ⟨w.heap.size, 6, none⟩).trans d6
                  clear b1 B1 hc0 hf0 hs0 hz0 c2
                  generalize w1.drewN nq = W at *
                  go_quiet ((go_at_call 145; first | with_reducible exact Calls.quiet_of_same (field_q _ _ _ _ _ H0.out _) | with_reducible exact Calls.quiet_of_same (field_q _ _ _ _ _ H1.out _) | with_reducible exact Calls.quiet_of_same (field_q _ _ _ _ _ H2.out _) | with_reducible exact Calls.quiet_of_same (field_q _ _ _ _ _ H3.out _) | with_reducible exact Calls.quiet_of_same (field_q _ _ _ _ _ H4.out _)))
                  go_wp2_with fail
                  go_ret
                  exact ⟨by rw [hr.out]; rfl, by (repeat (first | (with_reducible exact Below.refl _ _) | (with_reducible assumption) | (with_reducible refine Below.setCell ?_ ?side _; case side => first | (with_reducible exact Nat.le_refl _) | (simp; done) | (simp only [World.size_alloc, World.size_setCell, World.size_drew, World.heap_drewN] at *; omega)) | (with_reducible refine below_alloc ?_ _) | (with_reducible refine Below.drew ?_) | (with_reducible refine below_drewN ?_) | (with_reducible refine below_via (by assumption) ?_)))⟩
                | true =>
                  go_wp2_with fail
                  go_quiet ((go_at_call 145; first | with_reducible exact Calls.quiet_of_same (field_q _ _ _ _ _ H0.out _) | with_reducible exact Calls.quiet_of_same (field_q _ _ _ _ _ H1.out _) | with_reducible exact Calls.quiet_of_same (field_q _ _ _ _ _ H2.out _) | with_reducible exact Calls.quiet_of_same (field_q _ _ _ _ _ H3.out _) | with_reducible exact Calls.quiet_of_same (field_q _ _ _ _ _ H4.out _)))
                  go_wp2_with fail
                  have BW : Below w.heap.size w (w1.drewN nq) := by (repeat (first | (with_reducible exact Below.refl _ _) | (with_reducible assumption) | (with_reducible refine Below.setCell ?_ ?side _; case side => first | (with_reducible exact Nat.le_refl _) | (simp; done) | (simp only [World.size_alloc, World.size_setCell, World.size_drew, World.heap_drewN] at *; omega)) | (with_reducible refine below_alloc ?_ _) | (with_reducible refine Below.drew ?_) | (with_reducible refine below_drewN ?_) | (with_reducible refine below_via (by assumption) ?_)))
                  replace c0 := (cell_drewN w1 nq ⟨g, 0, none⟩).trans c0
                  replace c1 := (cell_drewN w1 nq ⟨g, 1, none⟩).trans c1
                  replace c3 := (cell_drewN w1 nq ⟨g, 3, none⟩).trans c3
                  replace c4 := (cell_drewN w1 nq ⟨g, 4, none⟩).trans c4
                  replace c5 := (cell_drewN w1 nq ⟨g, 5, none⟩).trans c5
                  replace d0 := (cell_drewN w1 nq ⟨w.heap.size, 0, none⟩).trans d0
                  replace d1 := (cell_drewN w1 nq ⟨w.heap.size, 1, none⟩).trans d1
                  replace d2 := (cell_drewN w1 nq ⟨w.heap.size, 2, none⟩).trans d2
                  replace d3 := (cell_drewN w1 nq ⟨w.heap.size, 3, none⟩).trans d3
                  replace d4 := (cell_drewN w1 nq ⟨w.heap.size, 4, none⟩).trans d4
                  replace d5 := (cell_drewN w1 nq ⟨w.heap.size, 5, none⟩).trans d5
                  replace d6 := (cell_drewN w1 nq ⟨w.heap.size, 6, none⟩).trans d6
                  clear b1 B1 hc0 hf0 hs0 hz0 c2
                  generalize w1.drewN nq = W at *
                  go_quiet ((go_at_call 145; first | with_reducible exact Calls.quiet_of_same (field_q _ _ _ _ _ H0.out _) | with_reducible exact Calls.quiet_of_same (field_q _ _ _ _ _ H1.out _) | with_reducible exact Calls.quiet_of_same (field_q _ _ _ _ _ H2.out _) | with_reducible exact Calls.quiet_of_same (field_q _ _ _ _ _ H3.out _) | with_reducible exact Calls.quiet_of_same (field_q _ _ _ _ _ H4.out _)))
                  go_wp2_with fail
                  go_ret
                  exact ⟨by rw [hr.out]; rfl, by (repeat (first | (with_reducible exact Below.refl _ _) | (with_reducible assumption) | (with_reducible refine Below.setCell ?_ ?side _; case side => first | (with_reducible exact Nat.le_refl _) | (simp; done) | (simp only [World.size_alloc, World.size_setCell, World.size_drew, World.heap_drewN] at *; omega)) | (with_reducible refine below_alloc ?_ _) | (with_reducible refine Below.drew ?_) | (with_reducible refine below_drewN ?_) | (with_reducible refine below_via (by assumption) ?_)))⟩
              | true =>
                go_wp2_with fail
                go_quiet ((go_at_call 145; first | with_reducible exact Calls.quiet_of_same (field_q _ _ _ _ _ H0.out _) | with_reducible exact Calls.quiet_of_same (field_q _ _ _ _ _ H1.out _) | with_reducible exact Calls.quiet_of_same (field_q _ _ _ _ _ H2.out _) | with_reducible exact Calls.quiet_of_same (field_q _ _ _ _ _ H3.out _) | with_reducible exact Calls.quiet_of_same (field_q _ _ _ _ _ H4.out _)))
                go_wp2_with fail
                have BW : Below w.heap.size w (w1.drewN nq) := by (repeat (first | (with_reducible exact Below.refl _ _) | (with_reducible assumption) | (with_reducible refine Below.setCell ?_ ?side _; case side => first | (with_reducible exact Nat.le_refl _) | (simp; done) | (simp only [World.size_alloc, World.size_setCell, World.size_drew, World.heap_drewN] at *; omega)) | (with_reducible refine below_alloc ?_ _) | (with_reducible refine Below.drew ?_) | (with_reducible refine below_drewN ?_) | (with_reducible refine below_via (by assumption) ?_)))
                replace c0 := (cell_drewN w1 nq ⟨g, 0, none⟩).trans c0
                replace c1 := (cell_drewN w1 nq ⟨g, 1, none⟩).trans c1
                replace c3 := (cell_drewN w1 nq ⟨g, 3, none⟩).trans c3
                replace c4 := (cell_drewN w1 nq ⟨g, 4, none⟩).trans c4
                replace c5 := (cell_drewN w1 nq ⟨g, 5, none⟩).trans c5
                replace d0 := (cell_drewN w1 nq ⟨w.heap.size, 0, none⟩).trans d0
                replace d1 := (cell_drewN w1 nq ⟨w.heap.size, 1, none⟩).trans d1
                replace d2 := (cell_drewN w1 nq ⟨w.heap.size, 2, none⟩).trans d2
                replace d3 := (cell_drewN w1 nq ⟨w.heap.size, 3, none⟩).trans d3
                replace d4 := (cell_drewN w1 nq ⟨w.heap.size, 4, none⟩).trans d4
                replace d5 := (cell_drewN w1 nq ⟨w.heap.size, 5, none⟩).trans d5
                replace d6 := (cell_drewN w1 nq ⟨w.heap.size, 6, none⟩).trans d6
                clear b1 B1 hc0 hf0 hs0 hz0 c2
                generalize w1.drewN nq = W at *
                go_quiet ((go_at_call 145; first | with_reducible exact Calls.quiet_of_same (field_q _ _ _ _ _ H0.out _) | with_reducible exact Calls.quiet_of_same (field_q _ _ _ _ _ H1.out _) | with_reducible exact Calls.quiet_of_same (field_q _ _ _ _ _ H2.out _) | with_reducible exact Calls.quiet_of_same (field_q _ _ _ _ _ H3.out _) | with_reducible exact Calls.quiet_of_same (field_q _ _ _ _ _ H4.out _)))
                go_wp2_with fail
                go_ret
                exact ⟨by rw [hr.out]; rfl, by (repeat (first | (with_reducible exact Below.refl _ _) | (with_reducible assumption) | (with_reducible refine Below.setCell ?_ ?side _; case side => first | (with_reducible exact Nat.le_refl _) | (simp; done) | (simp only [World.size_alloc, World.size_setCell, World.size_drew, World.heap_drewN] at *; omega)) | (with_reducible refine below_alloc ?_ _) | (with_reducible refine Below.drew ?_) | (with_reducible refine below_drewN ?_) | (with_reducible refine below_via (by assumption) ?_)))⟩
        | true =>
          by_cases ct : ch = too
          · subst ct
            have ct1 : decide (ch = ch) = true := decide_eq_true rfl
            rw [ct1] at hr
            go_wp2_with fail
            go_quiet ((go_at_call 145; first | with_reducible exact Calls.quiet_of_same (field_q _ _ _ _ _ H0.out _) | with_reducible exact Calls.quiet_of_same (field_q _ _ _ _ _ H1.out _) | with_reducible exact Calls.quiet_of_same (field_q _ _ _ _ _ H2.out _) | with_reducible exact Calls.quiet_of_same (field_q _ _ _ _ _ H3.out _) | with_reducible exact Calls.quiet_of_same (field_q _ _ _ _ _ H4.out _)))
            go_wp2_with fail
            go_ret
            exact ⟨by rw [hr.out]; rfl, by (repeat (first | (with_reducible exact Below.refl _ _) | (with_reducible assumption) | (with_reducible refine Below.setCell ?_ ?side _; case side => first | (with_reducible exact Nat.le_refl _) | (simp; done) | (simp only [World.size_alloc, World.size_setCell, World.size_drew, World.heap_drewN] at *; omega)) | (with_reducible refine below_alloc ?_ _) | (with_reducible refine Below.drew ?_) | (with_reducible refine below_drewN ?_) | (with_reducible refine below_via (by assumption) ?_)))⟩
          · have ct1 : decide (ch = too) = false := decide_eq_false ct
            rw [ct1] at hr
            have ct2 : ((ch : Int) == too) = false := by simp [ct]
            cases v3 with
            | false =>
              go_wp2_with fail
              go_quiet ((go_at_call 145; first | with_reducible exact Calls.quiet_of_same (field_q _ _ _ _ _ H0.out _) | with_reducible exact Calls.quiet_of_same (field_q _ _ _ _ _ H1.out _) | with_reducible exact Calls.quiet_of_same (field_q _ _ _ _ _ H2.out _) | with_reducible exact Calls.quiet_of_same (field_q _ _ _ _ _ H3.out _) | with_reducible exact Calls.quiet_of_same (field_q _ _ _ _ _ H4.out _)))
              go_wp2_with fail
              have BW : Below w.heap.size w (w1.drewN nq) := by (repeat (first | (with_reducible exact Below.refl _ _) | (with_reducible assumption) | (with_reducible refine Below.setCell ?_ ?side _; case side => first | (with_reducible exact Nat.le_refl _) | (simp; done) | (simp only [World.size_alloc, World.size_setCell, World.size_drew, World.heap_drewN] at *; omega)) | (with_reducible refine below_alloc ?_ _) | (with_reducible refine Below.drew ?_) | (with_reducible refine below_drewN ?_) | (with_reducible refine below_via (by assumption) ?_)))
              replace c0 := (cell_drewN w1 nq ⟨g, 0, none⟩).trans c0
              replace c1 := (cell_drewN w1 nq ⟨g, 1, none⟩).trans c1
              replace c3 := (cell_drewN w1 nq ⟨g, 3, none⟩).trans c3
              replace c4 := (cell_drewN w1 nq ⟨g, 4, none⟩).trans c4
              replace c5 := (cell_drewN w1 nq ⟨g, 5, none⟩).trans c5
              replace d0 := (cell_drewN w1 nq ⟨w.heap.size, 0, none⟩).trans d0
              replace d1 := (cell_drewN w1 nq ⟨w.heap.size, 1, none⟩).trans d1
              replace d2 := (cell_drewN w1 nq ⟨w.heap.size, 2, none⟩).trans d2
              replace d3 := (cell_drewN w1 nq ⟨w.heap.size, 3, none⟩).trans d3
              replace d4 := (cell_drewN w1 nq ⟨w.heap.size, 4, none⟩).trans d4
              replace d5 := (cell_drewN w1 nq ⟨w.heap.size, 5, none⟩).trans d5
              replace d6 := (cell_drewN w1 nq ⟨w.heap.size, 6, none⟩).trans d6
              clear b1 B1 hc0 hf0 hs0 hz0 c2
              generalize w1.drewN nq = W at *
              go_quiet ((go_at_call 145; first | with_reducible exact Calls.quiet_of_same (field_q _ _ _ _ _ H0.out _) | with_reducible exact Calls.quiet_of_same (field_q _ _ _ _ _ H1.out _) | with_reducible exact Calls.quiet_of_same (field_q _ _ _ _ _ H2.out _) | with_reducible exact Calls.quiet_of_same (field_q _ _ _ _ _ H3.out _) | with_reducible exact Calls.quiet_of_same (field_q _ _ _ _ _ H4.out _)))
              go_wp2_with fail
              go_ret
              exact ⟨by rw [hr.out]; rfl, by (repeat (first | (with_reducible exact Below.refl _ _) | (with_reducible assumption) | (with_reducible refine Below.setCell ?_ ?side _; case side => first | (with_reducible exact Nat.le_refl _) | (simp; done) | (simp only [World.size_alloc, World.size_setCell, World.size_drew, World.heap_drewN] at *; omega)) | (with_reducible refine below_alloc ?_ _) | (with_reducible refine Below.drew ?_) | (with_reducible refine below_drewN ?_) | (with_reducible refine below_via (by assumption) ?_)))⟩
            | true =>
              cases v4 with
              | false =>
                go_wp2_with fail
                go_quiet ((go_at_call 145; first | with_reducible exact Calls.quiet_of_same (field_q _ _ _ _ _ H0.out _) | with_reducible exact Calls.quiet_of_same (field_q _ _ _ _ _ H1.out _) | with_reducible exact Calls.quiet_of_same (field_q _ _ _ _ _ H2.out _) | with_reducible exact Calls.quiet_of_same (field_q _ _ _ _ _ H3.out _) | with_reducible exact Calls.quiet_of_same (field_q _ _ _ _ _ H4.out _)))
                go_wp2_with fail
                have BW : Below w.heap.size w (w1.drewN nq) := by (repeat (first | (with_reducible exact Below.refl _ _) | (with_reducible assumption) | (with_reducible refine Below.setCell ?_ ?side _; case side => first | (with_reducible exact Nat.le_refl _) | (simp; done) | (simp only [World.size_alloc, World.size_setCell, World.size_drew, World.heap_drewN] at *; omega)) | (with_reducible refine below_alloc ?_ _) | (with_reducible refine Below.drew ?_) | (with_reducible refine below_drewN ?_) | (with_reducible refine below_via (by assumption) ?_)))
                replace c0 := (cell_drewN w1 nq ⟨g, 0, none⟩).trans c0
                replace c1 := (cell_drewN w1 nq ⟨g, 1, none⟩).trans c1
                replace c3 := (cell_drewN w1 nq ⟨g, 3, none⟩).trans c3
                replace c4 := (cell_drewN w1 nq ⟨g, 4, none⟩).trans c4
                replace c5 := (cell_drewN w1 nq ⟨g, 5, none⟩).trans c5
                replace d0 := (cell_drewN w1 nq ⟨w.heap.size, 0, none⟩).trans d0
                replace d1 := (cell_drewN w1 nq ⟨w.heap.size, 1, none⟩).trans d1
                replace d2 := (cell_drewN w1 nq ⟨w.heap.size, 2, none⟩).trans d2
                replace d3 := (cell_drewN w1 nq ⟨w.heap.size, 3, none⟩).trans d3
                replace d4 := (cell_drewN w1 nq ⟨w.heap.size, 4, none⟩).trans d4
                replace d5 := (cell_drewN w1 nq ⟨w.heap.size, 5, none⟩).trans d5
                replace d6 := (cell_drewN w1 nq ⟨w.heap.size, 6, none⟩).trans d6
                clear b1 B1 hc0 hf0 hs0 hz0 c2
                generalize w1.drewN nq = W at *
                go_quiet ((go_at_call 145; first | with_reducible exact Calls.quiet_of_same (field_q _ _ _ _ _ H0.out _) | with_reducible exact Calls.quiet_of_same (field_q _ _ _ _ _ H1.out _) | with_reducible exact Calls.quiet_of_same (field_q _ _ _ _ _ H2.out _) | with_reducible exact Calls.quiet_of_same (field_q _ _ _ _ _ H3.out _) | with_reducible exact Calls.quiet_of_same (field_q _ _ _ _ _ H4.out _)))
                go_wp2_with fail
                go_ret
                exact ⟨by rw [hr.out]; rfl, by (repeat (first | (with_reducible exact Below.refl _ _) | (with_reducible assumption) | (with_reducible refine Below.setCell ?_ ?side _; case side => first | (with_reducible exact Nat.le_refl _) | (simp; done) | (simp only [World.size_alloc, World.size_setCell, World.size_drew, World.heap_drewN] at *; omega)) | (with_reducible refine below_alloc ?_ _) | (with_reducible refine Below.drew ?_) | (with_reducible refine below_drewN ?_) | (with_reducible refine below_via (by assumption) ?_)))⟩
              | true =>
                cases h5 with
                | false =>
                  cases yes with
                  | false =>
                    go_wp2_with fail
                    go_quiet ((go_at_call 145; first | with_reducible exact Calls.quiet_of_same (field_q _ _ _ _ _ H0.out _) | with_reducible exact Calls.quiet_of_same (field_q _ _ _ _ _ H1.out _) | with_reducible exact Calls.quiet_of_same (field_q _ _ _ _ _ H2.out _) | with_reducible exact Calls.quiet_of_same (field_q _ _ _ _ _ H3.out _) | with_reducible exact Calls.quiet_of_same (field_q _ _ _ _ _ H4.out _)))
                    go_wp2_with fail
                    have BW : Below w.heap.size w (w1.drewN nq) := by (repeat (first | (with_reducible exact Below.refl _ _) | (with_reducible assumption) | (with_reducible refine Below.setCell ?_ ?side _; case side => first | (with_reducible exact Nat.le_refl _) | (simp; done) | (simp only [World.size_alloc, World.size_setCell, World.size_drew, World.heap_drewN] at *; omega)) | (with_reducible refine below_alloc ?_ _) | (with_reducible refine Below.drew ?_) | (with_reducible refine below_drewN ?_) | (with_reducible refine below_via (by assumption) ?_)))
                    replace c0 := (cell_drewN w1 nq ⟨g, 0, none⟩).trans c0
                    replace c1 := (cell_drewN w1 nq ⟨g, 1, none⟩).trans c1
                    replace c3 := (cell_drewN w1 nq ⟨g, 3, none⟩).trans c3
                    replace c4 := (cell_drewN w1 nq ⟨g, 4, none⟩).trans c4
                    replace c5 := (cell_drewN w1 nq ⟨g, 5, none⟩).trans c5
                    replace d0 := (cell_drewN w1 nq ⟨w.heap.size, 0, none⟩).trans d0
                    replace d1 := (cell_drewN w1 nq ⟨w.heap.size, 1, none⟩).trans d1
                    replace d2 := (cell_drewN w1 nq ⟨w.heap.size, 2, none⟩).trans d2
                    replace d3 := (cell_drewN w1 nq ⟨w.heap.size, 3, none⟩).trans d3
                    replace d4 := (cell_drewN w1 nq ⟨w.heap.size, 4, none⟩).trans d4
                    replace d5 := (cell_drewN w1 nq ⟨w.heap.size, 5, none⟩).trans d5
                    replace d6 := (cell_drewN w1 nq ⟨w.heap.size, 6, none⟩).trans d6
                    clear b1 B1 hc0 hf0 hs0 hz0 c2
                    generalize w1.drewN nq = W at *
                    go_quiet ((go_at_call 145; first | with_reducible exact Calls.quiet_of_same (field_q _ _ _ _ _ H0.out _) | with_reducible exact Calls.quiet_of_same (field_q _ _ _ _ _ H1.out _) | with_reducible exact Calls.quiet_of_same (field_q _ _ _ _ _ H2.out _) | with_reducible exact Calls.quiet_of_same (field_q _ _ _ _ _ H3.out _) | with_reducible exact Calls.quiet_of_same (field_q _ _ _ _ _ H4.out _)))
                    go_wp2_with fail
                    go_ret
                    exact ⟨by rw [hr.out]; rfl, by (repeat (first | (with_reducible exact Below.refl _ _) | (with_reducible assumption) | (with_reducible refine Below.setCell ?_ ?side _; case side => first | (with_reducible exact Nat.le_refl _) | (simp; done) | (simp only [World.size_alloc, World.size_setCell, World.size_drew, World.heap_drewN] at *; omega)) | (with_reducible refine below_alloc ?_ _) | (with_reducible refine Below.drew ?_) | (with_reducible refine below_drewN ?_) | (with_reducible refine below_via (by assumption) ?_)))⟩
                  | true =>
                    go_wp2_with fail
                    go_quiet ((go_at_call 145; first | with_reducible exact Calls.quiet_of_same (field_q _ _ _ _ _ H0.out _) | with_reducible exact Calls.quiet_of_same (field_q _ _ _ _ _ H1.out _) | with_reducible exact Calls.quiet_of_same (field_q _ _ _ _ _ H2.out _) | with_reducible exact Calls.quiet_of_same (field_q _ _ _ _ _ H3.out _) | with_reducible exact Calls.quiet_of_same (field_q _ _ _ _ _ H4.out _)))
                    go_wp2_with fail
                    have BW : Below w.heap.size w (w1.drewN nq) := by (repeat (first | (with_reducible exact Below.refl _ _) | (with_reducible assumption) | (with_reducible refine Below.setCell ?_ ?side _; case side => first | (with_reducible exact Nat.le_refl _) | (simp; done) | (simp only [World.size_alloc, World.size_setCell, World.size_drew, World.heap_drewN] at *; omega)) | (with_reducible refine below_alloc ?_ _) | (with_reducible refine Below.drew ?_) | (with_reducible refine below_drewN ?_) | (with_reducible refine below_via (by assumption) ?_)))
                    replace c0 := (cell_drewN w1 nq ⟨g, 0, none⟩).trans c0
                    replace c1 := (cell_drewN w1 nq ⟨g, 1, none⟩).trans c1
                    replace c3 := (cell_drewN w1 nq ⟨g, 3, none⟩).trans c3
                    replace c4 := (cell_drewN w1 nq ⟨g, 4, none⟩).trans c4
                    replace c5 := (cell_drewN w1 nq ⟨g, 5, none⟩).trans c5
                    replace d0 := (cell_drewN w1 nq ⟨w.heap.size, 0, none⟩).trans d0
                    replace d1 := (cell_drewN w1 nq ⟨w.heap.size, 1, none⟩).trans d1
                    replace d2 := (cell_drewN w1 nq ⟨w.heap.size, 2, none⟩).trans d2
                    replace d3 := (cell_drewN w1 nq ⟨w.heap.size, 3, none⟩).trans d3
                    replace d4 := (cell_drewN w1 nq ⟨w.heap.size, 4, none⟩).trans d4
                    replace d5 := (cell_drewN w1 nq ⟨w.heap.size, 5, none⟩).trans d5
                    replace d6 := (cell_drewN w1 nq ⟨w.heap.size, 6, none⟩).trans d6
                    clear b1 B1 hc0 hf0 hs0 hz0 c2
                    generalize w1.drewN nq = W at *
                    go_quiet ((go_at_call 145; first | with_reducible exact Calls.quiet_of_same (field_q _ _ _ _ _ H0.out _) | with_reducible exact Calls.quiet_of_same (field_q _ _ _ _ _ H1.out _) | with_reducible exact Calls.quiet_of_same (field_q _ _ _ _ _ H2.out _) | with_reducible exact Calls.quiet_of_same (field_q _ _ _ _ _ H3.out _) | with_reducible exact Calls.quiet_of_same (field_q _ _ _ _ _ H4.out _)))
                    go_wp2_with fail
                    go_ret
                    exact ⟨by rw [hr.out]; rfl, by (repeat (first | (with_reducible exact Below.refl _ _) | (with_reducible assumption) | (with_reducible refine Below.setCell ?_ ?side _; case side => first | (with_reducible exact Nat.le_refl _) | (simp; done) | (simp only [World.size_alloc, World.size_setCell, World.size_drew, World.heap_drewN] at *; omega)) | (with_reducible refine below_alloc ?_ _) | (with_reducible refine Below.drew ?_) | (with_reducible refine below_drewN ?_) | (with_reducible refine below_via (by assumption) ?_)))⟩
                | true =>
                  go_wp2_with fail
                  go_quiet ((go_at_call 145; first | with_reducible exact Calls.quiet_of_same (field_q _ _ _ _ _ H0.out _) | with_reducible exact Calls.quiet_of_same (field_q _ _ _ _ _ H1.out _) | with_reducible exact Calls.quiet_of_same (field_q _ _ _ _ _ H2.out _) | with_reducible exact Calls.quiet_of_same (field_q _ _ _ _ _ H3.out _) | with_reducible exact Calls.quiet_of_same (field_q _ _ _ _ _ H4.out _)))
                  go_wp2_with fail
                  have BW : Below w.heap.size w (w1.drewN nq) := by (repeat (first | (with_reducible exact Below.refl _ _) | (with_reducible assumption) | (with_reducible refine Below.setCell ?_ ?side _; case side => first | (with_reducible exact Nat.le_refl _) | (simp; done) | (simp only [World.size_alloc, World.size_setCell, World.size_drew, World.heap_drewN] at *; omega)) | (with_reducible refine below_alloc ?_ _) | (with_reducible refine Below.drew ?_) | (with_reducible refine below_drewN ?_) | (with_reducible refine below_via (by assumption) ?_)))
                  replace c0 := (cell_drewN w1 nq ⟨g, 0, none⟩).trans c0
                  replace c1 := (cell_drewN w1 nq ⟨g, 1, none⟩).trans c1
                  replace c3 := (cell_drewN w1 nq ⟨g, 3, none⟩).trans c3
                  replace c4 := (cell_drewN w1 nq ⟨g, 4, none⟩).trans c4
                  replace c5 := (cell_drewN w1 nq ⟨g, 5, none⟩).trans c5
                  replace d0 := (cell_drewN w1 nq ⟨w.heap.size, 0, none⟩).trans d0
                  replace d1 := (cell_drewN w1 nq ⟨w.heap.size, 1, none⟩).trans d1
                  replace d2 := (cell_drewN w1 nq ⟨w.heap.size, 2, none⟩).trans d2
                  replace d3 := (cell_drewN w1 nq ⟨w.heap.size, 3, none⟩).trans d3
                  replace d4 := (cell_drewN w1 nq ⟨w.heap.size, 4, none⟩).trans d4
                  replace d5 := (cell_drewN w1 nq ⟨w.heap.size, 5, none⟩).trans d5
                  replace d6 := (cell_drewN w1 nq ⟨w.heap.size, 6, none⟩).trans d6
                  clear b1 B1 hc0 hf0 hs0 hz0 c2
                  generalize w1.drewN nq = W at *
                  go_quiet ((go_at_call 145; first | with_reducible exact Calls.quiet_of_same (field_q _ _ _ _ _ H0.out _) | with_reducible exact Calls.quiet_of_same (field_q _ _ _ _ _ H1.out _) | with_reducible exact Calls.quiet_of_same (field_q _ _ _ _ _ H2.out _) | with_reducible exact Calls.quiet_of_same (field_q _ _ _ _ _ H3.out _) | with_reducible exact Calls.quiet_of_same (field_q _ _ _ _ _ H4.out _)))
                  go_wp2_with fail
                  go_ret
                  exact ⟨by rw [hr.out]; rfl, by (repeat (first | (with_reducible exact Below.refl _ _) | (with_reducible assumption) | (with_reducible refine Below.setCell ?_ ?side _; case side => first | (with_reducible exact Nat.le_refl _) | (simp; done) | (simp only [World.size_alloc, World.size_setCell, World.size_drew, World.heap_drewN] at *; omega)) | (with_reducible refine below_alloc ?_ _) | (with_reducible refine Below.drew ?_) | (with_reducible refine below_drewN ?_) | (with_reducible refine below_via (by assumption) ?_)))⟩

set_option maxRecDepth 100000 in
set_option maxHeartbeats 6400000 in
theorem evOk_specN (k key ch too amt fee : Int) (yes : Bool) (w : World) (g1 : 1 ≤ k) (g2 : k ≤ 11) (hk : ¬ k = 4) : Calls Tryz.prog 116 #[.agg #[.int .i64 k, .int .i64 key, .int .i64 ch, .int .i64 too, .int .i64 amt, .int .i64 fee, .bool yes]] w fun e w' => e = .returned (.bool (evOk k key ch too amt fee yes)) ∧ Below w.heap.size w w' := by
  have hl := hasF_len k
  obtain ⟨h0, h1, h2, h3, h4, h5, hh⟩ : ∃ h0 h1 h2 h3 h4 h5, hasF k = [h0, h1, h2, h3, h4, h5] := by
    match hasF k, hl with
    | [h0, h1, h2, h3, h4, h5], _ => exact ⟨h0, h1, h2, h3, h4, h5, rfl⟩
  obtain ⟨v0, H0⟩ : ∃ v, v = fld h0 key 1 1000000 := ⟨_, rfl⟩
  obtain ⟨v1, H1⟩ : ∃ v, v = fld h1 ch 1 99 := ⟨_, rfl⟩
  obtain ⟨v2, H2⟩ : ∃ v, v = fld h2 too 1 99 := ⟨_, rfl⟩
  obtain ⟨v3, H3⟩ : ∃ v, v = fld h3 amt 1 1125899906842624 := ⟨_, rfl⟩
  obtain ⟨v4, H4⟩ : ∃ v, v = fld h4 fee 0 1125899906842624 := ⟨_, rfl⟩
  have hr : Hid (evOk k key ch too amt fee yes = (v0 && v1 && v2 && !(h2 && decide (ch = too)) && v3 && v4 && (h5 || !yes))) := by
    unfold Hid evOk
    rw [hh, decide_eq_true ⟨g1, g2⟩, Bool.true_and, if_neg hk, if_neg hk, H0, H1, H2, H3, H4]
  replace H0 := Lib.hid H0.symm
  replace H1 := Lib.hid H1.symm
  replace H2 := Lib.hid H2.symm
  replace H3 := Lib.hid H3.symm
  replace H4 := Lib.hid H4.symm
  go_enter Tryz.func116, Tryz.ntmps116
  go_wp2_with fail
  refine (l04Has_any _ _).mono ?_
  rintro e w1 ⟨⟨g, rfl, F⟩, b1⟩
  rw [hh] at F
  have B1 := below_via b1 (by (repeat (first | (with_reducible exact Below.refl _ _) | (with_reducible assumption) | (with_reducible refine Below.setCell ?_ ?side _; case side => first | (with_reducible exact Nat.le_refl _) | (simp; done) | (simp only [World.size_alloc, World.size_setCell, World.size_drew, World.heap_drewN] at *; omega)) | (with_reducible refine below_alloc ?_ _) | (with_reducible refine Below.drew ?_) | (with_reducible refine below_drewN ?_) | (with_reducible refine below_via (by assumption) ?_))) : Below w.heap.size w _)
  obtain ⟨hc0, hf0, hs0, hz0⟩ := brules b1
  have c := fun (j : Nat) (v : Bool) (hj : [h0, h1, h2, h3, h4, h5][j]? = some v) => BoS.cell F j v hj
  have c0 := c 0 h0 rfl
  have c1 := c 1 h1 rfl
  have c2 := c 2 h2 rfl
  have c3 := c 3 h3 rfl
  have c4 := c 4 h4 rfl
  have c5 := c 5 h5 rfl
  clear c F hh hl
  have d0 : w1.cell? ⟨w.heap.size, 0, none⟩ = some (.int .i64 k) := by rw [hc0 _ _ (by simp)]; simp [go_sem]
  have d1 : w1.cell? ⟨w.heap.size, 1, none⟩ = some (.int .i64 key) := by rw [hc0 _ _ (by simp)]; simp [go_sem]
  have d2 : w1.cell? ⟨w.heap.size, 2, none⟩ = some (.int .i64 ch) := by rw [hc0 _ _ (by simp)]; simp [go_sem]
  have d3 : w1.cell? ⟨w.heap.size, 3, none⟩ = some (.int .i64 too) := by rw [hc0 _ _ (by simp)]; simp [go_sem]
  have d4 : w1.cell? ⟨w.heap.size, 4, none⟩ = some (.int .i64 amt) := by rw [hc0 _ _ (by simp)]; simp [go_sem]
  have d5 : w1.cell? ⟨w.heap.size, 5, none⟩ = some (.int .i64 fee) := by rw [hc0 _ _ (by simp)]; simp [go_sem]
  have d6 : w1.cell? ⟨w.heap.size, 6, none⟩ = some (.bool yes) := by rw [hc0 _ _ (by simp)]; simp [go_sem]
  cases v0 with
  | false =>
    go_wp2_with fail
    go_quiet ((go_at_call 145; first | with_reducible exact Calls.quiet_of_same (field_q _ _ _ _ _ H0.out _) | with_reducible exact Calls.quiet_of_same (field_q _ _ _ _ _ H1.out _) | with_reducible exact Calls.quiet_of_same (field_q _ _ _ _ _ H2.out _) | with_reducible exact Calls.quiet_of_same (field_q _ _ _ _ _ H3.out _) | with_reducible exact Calls.quiet_of_same (field_q _ _ _ _ _ H4.out _)))
    go_wp2_with fail
    go_ret
    exact ⟨by rw [hr.out]; rfl, by (repeat (first | (with_reducible exact Below.refl _ _) | (with_reducible assumption) | (with_reducible refine Below.setCell ?_ ?side _; case side => first | (with_reducible exact Nat.le_refl _) | (simp; done) | (simp only [World.size_alloc, World.size_setCell, World.size_drew, World.heap_drewN] at *; omega)) | (with_reducible refine below_alloc ?_ _) | (with_reducible refine Below.drew ?_) | (with_reducible refine below_drewN ?_) | (with_reducible refine below_via (by assumption) ?_)))⟩
  | true =>
    cases v1 with
    | false =>
      go_wp2_with fail
      go_quiet ((go_at_call 145; first | with_reducible exact Calls.quiet_of_same (field_q _ _ _ _ _ H0.out _) | with_reducible exact Calls.quiet_of_same (field_q _ _ _ _ _ H1.out _) | with_reducible exact Calls.quiet_of_same (field_q _ _ _ _ _ H2.out _) | with_reducible exact Calls.quiet_of_same (field_q _ _ _ _ _ H3.out _) | with_reducible exact Calls.quiet_of_same (field_q _ _ _ _ _ H4.out _)))
      go_wp2_with fail
      go_ret
      exact ⟨by rw [hr.out]; rfl, by (repeat (first | (with_reducible exact Below.refl _ _) | (with_reducible assumption) | (with_reducible refine Below.setCell ?_ ?side _; case side => first | (with_reducible exact Nat.le_refl _) | (simp; done) | (simp only [World.size_alloc, World.size_setCell, World.size_drew, World.heap_drewN] at *; omega)) | (with_reducible refine below_alloc ?_ _) | (with_reducible refine Below.drew ?_) | (with_reducible refine below_drewN ?_) | (with_reducible refine below_via (by assumption) ?_)))⟩
    | true =>
      cases v2 with
      | false =>
        go_wp2_with fail
        go_quiet ((go_at_call 145; first | with_reducible exact Calls.quiet_of_same (field_q _ _ _ _ _ H0.out _) | with_reducible exact Calls.quiet_of_same (field_q _ _ _ _ _ H1.out _) | with_reducible exact Calls.quiet_of_same (field_q _ _ _ _ _ H2.out _) | with_reducible exact Calls.quiet_of_same (field_q _ _ _ _ _ H3.out _) | with_reducible exact Calls.quiet_of_same (field_q _ _ _ _ _ H4.out _)))
        go_wp2_with fail
        go_ret
        exact ⟨by rw [hr.out]; rfl, by (repeat (first | (with_reducible exact Below.refl _ _) | (with_reducible assumption) | (with_reducible refine Below.setCell ?_ ?side _; case side => first | (with_reducible exact Nat.le_refl _) | (simp; done) | (simp only [World.size_alloc, World.size_setCell, World.size_drew, World.heap_drewN] at *; omega)) | (with_reducible refine below_alloc ?_ _) | (with_reducible refine Below.drew ?_) | (with_reducible refine below_drewN ?_) | (with_reducible refine below_via (by assumption) ?_)))⟩
      | true =>
        cases h2 with
        | false =>
          cases v3 with
          | false =>
            go_wp2_with fail
            go_quiet ((go_at_call 145; first | with_reducible exact Calls.quiet_of_same (field_q _ _ _ _ _ H0.out _) | with_reducible exact Calls.quiet_of_same (field_q _ _ _ _ _ H1.out _) | with_reducible exact Calls.quiet_of_same (field_q _ _ _ _ _ H2.out _) | with_reducible exact Calls.quiet_of_same (field_q _ _ _ _ _ H3.out _) | with_reducible exact Calls.quiet_of_same (field_q _ _ _ _ _ H4.out _)))
            go_wp2_with fail
            have BW : Below w.heap.size w (w1.drewN nq) := by (repeat (first | (with_reducible exact Below.refl _ _) | (with_reducible assumption) | (with_reducible refine Below.setCell ?_ ?side _; case side => first | (with_reducible exact Nat.le_refl _) | (simp; done) | (simp only [World.size_alloc, World.size_setCell, World.size_drew, World.heap_drewN] at *; omega)) | (with_reducible refine below_alloc ?_ _) | (with_reducible refine Below.drew ?_) | (with_reducible refine below_drewN ?_) | (with_reducible refine below_via (by assumption) ?_)))
            replace c0 := (cell_drewN w1 nq ⟨g, 0, none⟩).trans c0
            replace c1 := (cell_drewN w1 nq ⟨g, 1, none⟩).trans c1
            replace c3 := (cell_drewN w1 nq ⟨g, 3, none⟩).trans c3
            replace c4 := (cell_drewN w1 nq ⟨g, 4, none⟩).trans c4
            replace c5 := (cell_drewN w1 nq ⟨g, 5, none⟩).trans c5
            replace d0 := (cell_drewN w1 nq ⟨w.heap.size, 0, none⟩).trans d0
            replace d1 := (cell_drewN w1 nq ⟨w.heap.size, 1, none⟩).trans d1
            replace d2 := (cell_drewN w1 nq ⟨w.heap.size, 2, none⟩).trans d2
            replace d3 := (cell_drewN w1 nq ⟨w.heap.size, 3, none⟩).trans d3
            replace d4 := (cell_drewN w1 nq ⟨w.heap.size, 4, none⟩).trans d4
            replace d5 := (cell_drewN w1 nq ⟨w.heap.size, 5, none⟩).trans d5
            replace d6 := (cell_drewN w1 nq ⟨w.heap.size, 6, none⟩).trans d6
            clear b1 B1 hc0 hf0 hs0 hz0 c2
            generalize w1.drewN nq = W at *
            go_quiet ((go_at_call 145; first | with_reducible exact Calls.quiet_of_same (field_q _ _ _ _ _ H0.out _) | with_reducible exact Calls.quiet_of_same (field_q _ _ _ _ _ H1.out _) | with_reducible exact Calls.quiet_of_same (field_q _ _ _ _ _ H2.out _) | with_reducible exact Calls.quiet_of_same (field_q _ _ _ _ _ H3.out _) | with_reducible exact Calls.quiet_of_same (field_q _ _ _ _ _ H4.out _)))
            go_wp2_with fail
            go_ret
            exact ⟨by rw [hr.out]; rfl, by (repeat (first | (with_reducible exact Below.refl _ _) | (with_reducible assumption) | (with_reducible refine Below.setCell ?_ ?side _; case side => first | (with_reducible exact Nat.le_refl _) | (simp; done) | (simp only [World.size_alloc, World.size_setCell, World.size_drew, World.heap_drewN] at *; omega)) | (with_reducible refine below_alloc ?_ _) | (with_reducible refine Below.drew ?_) | (with_reducible refine below_drewN ?_) | (with_reducible refine below_via (by assumption) ?_)))⟩
          | true =>
            cases v4 with
            | false =>
              go_wp2_with fail
              go_quiet ((go_at_call 145; first | with_reducible exact Calls.quiet_of_same (field_q _ _ _ _ _ H0.out _) | with_reducible exact Calls.quiet_of_same (field_q _ _ _ _ _ H1.out _) | with_reducible exact Calls.quiet_of_same (field_q _ _ _ _ _ H2.out _) | with_reducible exact Calls.quiet_of_same (field_q _ _ _ _ _ H3.out _) | with_reducible exact Calls.quiet_of_same (field_q _ _ _ _ _ H4.out _)))
              go_wp2_with fail
              have BW : Below w.heap.size w (w1.drewN nq) := by (repeat (first | (with_reducible exact Below.refl _ _) | (with_reducible assumption) | (with_reducible refine Below.setCell ?_ ?side _; case side => first | (with_reducible exact Nat.le_refl _) | (simp; done) | (simp only [World.size_alloc, World.size_setCell, World.size_drew, World.heap_drewN] at *; omega)) | (with_reducible refine below_alloc ?_ _) | (with_reducible refine Below.drew ?_) | (with_reducible refine below_drewN ?_) | (with_reducible refine below_via (by assumption) ?_)))
              replace c0 := (cell_drewN w1 nq ⟨g, 0, none⟩).trans c0
              replace c1 := (cell_drewN w1 nq ⟨g, 1, none⟩).trans c1
              replace c3 := (cell_drewN w1 nq ⟨g, 3, none⟩).trans c3
              replace c4 := (cell_drewN w1 nq ⟨g, 4, none⟩).trans c4
              replace c5 := (cell_drewN w1 nq ⟨g, 5, none⟩).trans c5
              replace d0 := (cell_drewN w1 nq ⟨w.heap.size, 0, none⟩).trans d0
              replace d1 := (cell_drewN w1 nq ⟨w.heap.size, 1, none⟩).trans d1
              replace d2 := (cell_drewN w1 nq ⟨w.heap.size, 2, none⟩).trans d2
              replace d3 := (cell_drewN w1 nq ⟨w.heap.size, 3, none⟩).trans d3
              replace d4 := (cell_drewN w1 nq ⟨w.heap.size, 4, none⟩).trans d4
              replace d5 := (cell_drewN w1 nq ⟨w.heap.size, 5, none⟩).trans d5
              replace d6 := (cell_drewN w1 nq ⟨w.heap.size, 6, none⟩).trans d6
              clear b1 B1 hc0 hf0 hs0 hz0 c2
              generalize w1.drewN nq = W at *
              go_quiet ((go_at_call 145; first | with_reducible exact Calls.quiet_of_same (field_q _ _ _ _ _ H0.out _) | with_reducible exact Calls.quiet_of_same (field_q _ _ _ _ _ H1.out _) | with_reducible exact Calls.quiet_of_same (field_q _ _ _ _ _ H2.out _) | with_reducible exact Calls.quiet_of_same (field_q _ _ _ _ _ H3.out _) | with_reducible exact Calls.quiet_of_same (field_q _ _ _ _ _ H4.out _)))
              go_wp2_with fail
              go_ret
              exact ⟨by rw [hr.out]; rfl, by (repeat (first | (with_reducible exact Below.refl _ _) | (with_reducible assumption) | (with_reducible refine Below.setCell ?_ ?side _; case side => first | (with_reducible exact Nat.le_refl _) | (simp; done) | (simp only [World.size_alloc, World.size_setCell, World.size_drew, World.heap_drewN] at *; omega)) | (with_reducible refine below_alloc ?_ _) | (with_reducible refine Below.drew ?_) | (with_reducible refine below_drewN ?_) | (with_reducible refine below_via (by assumption) ?_)))⟩
            | true =>
              cases h5 with
              | false =>
                cases yes with
                | false =>
                  go_wp2_with fail
                  go_quiet ((go_at_call 145; first | with_reducible exact Calls.quiet_of_same (field_q _ _ _ _ _ H0.out _) | with_reducible exact Calls.quiet_of_same (field_q _ _ _ _ _ H1.out _) | with_reducible exact Calls.quiet_of_same (field_q _ _ _ _ _ H2.out _) | with_reducible exact Calls.quiet_of_same (field_q _ _ _ _ _ H3.out _) | with_reducible exact Calls.quiet_of_same (field_q _ _ _ _ _ H4.out _)))
                  go_wp2_with fail
                  have BW : Below w.heap.size w (w1.drewN nq) := by (repeat (first | (with_reducible exact Below.refl _ _) | (with_reducible assumption) | (with_reducible refine Below.setCell ?_ ?side _; case side => first | (with_reducible exact Nat.le_refl _) | (simp; done) | (simp only [World.size_alloc, World.size_setCell, World.size_drew, World.heap_drewN] at *; omega)) | (with_reducible refine below_alloc ?_ _) | (with_reducible refine Below.drew ?_) | (with_reducible refine below_drewN ?_) | (with_reducible refine below_via (by assumption) ?_)))
                  replace c0 := (cell_drewN w1 nq ⟨g, 0, none⟩).trans c0
                  replace c1 := (cell_drewN w1 nq ⟨g, 1, none⟩).trans c1
                  replace c3 := (cell_drewN w1 nq ⟨g, 3, none⟩).trans c3
                  replace c4 := (cell_drewN w1 nq ⟨g, 4, none⟩).trans c4
                  replace c5 := (cell_drewN w1 nq ⟨g, 5, none⟩).trans c5
                  replace d0 := (cell_drewN w1 nq ⟨w.heap.size, 0, none⟩).trans d0
                  replace d1 := (cell_drewN w1 nq ⟨w.heap.size, 1, none⟩).trans d1
                  replace d2 := (cell_drewN w1 nq ⟨w.heap.size, 2, none⟩).trans d2
                  replace d3 := (cell_drewN w1 nq ⟨w.heap.size, 3, none⟩).trans d3
                  replace d4 := (cell_drewN w1 nq ⟨w.heap.size, 4, none⟩).trans d4
                  replace d5 := (cell_drewN w1 nq ⟨w.heap.size, 5, none⟩).trans d5
                  replace d6 := (cell_drewN w1 nq ⟨w.heap.size, 6, none⟩).trans d6
                  clear b1 B1 hc0 hf0 hs0 hz0 c2
                  generalize w1.drewN nq = W at *
                  go_quiet ((go_at_call 145; first | with_reducible exact Calls.quiet_of_same (field_q _ _ _ _ _ H0.out _) | with_reducible exact Calls.quiet_of_same (field_q _ _ _ _ _ H1.out _) | with_reducible exact Calls.quiet_of_same (field_q _ _ _ _ _ H2.out _) | with_reducible exact Calls.quiet_of_same (field_q _ _ _ _ _ H3.out _) | with_reducible exact Calls.quiet_of_same (field_q _ _ _ _ _ H4.out _)))
                  go_wp2_with fail
                  go_ret
                  exact ⟨by rw [hr.out]; rfl, by (repeat (first | (with_reducible exact Below.refl _ _) | (with_reducible assumption) | (with_reducible refine Below.setCell ?_ ?side _; case side => first | (with_reducible exact Nat.le_refl _) | (simp; done) | (simp only [World.size_alloc, World.size_setCell, World.size_drew, World.heap_drewN] at *; omega)) | (with_reducible refine below_alloc ?_ _) | (with_reducible refine Below.drew ?_) | (with_reducible refine below_drewN ?_) | (with_reducible refine below_via (by assumption) ?_)))⟩
                | true =>
                  go_wp2_with fail
                  go_quiet ((go_at_call 145; first | with_reducible exact Calls.quiet_of_same (field_q _ _ _ _ _ H0.out _) | with_reducible exact Calls.quiet_of_same (field_q _ _ _ _ _ H1.out _) | with_reducible exact Calls.quiet_of_same (field_q _ _ _ _ _ H2.out _) | with_reducible exact Calls.quiet_of_same (field_q _ _ _ _ _ H3.out _) | with_reducible exact Calls.quiet_of_same (field_q _ _ _ _ _ H4.out _)))
                  go_wp2_with fail
                  have BW : Below w.heap.size w (w1.drewN nq) := by (repeat (first | (with_reducible exact Below.refl _ _) | (with_reducible assumption) | (with_reducible refine Below.setCell ?_ ?side _; case side => first | (with_reducible exact Nat.le_refl _) | (simp; done) | (simp only [World.size_alloc, World.size_setCell, World.size_drew, World.heap_drewN] at *; omega)) | (with_reducible refine below_alloc ?_ _) | (with_reducible refine Below.drew ?_) | (with_reducible refine below_drewN ?_) | (with_reducible refine below_via (by assumption) ?_)))
                  replace c0 := (cell_drewN w1 nq ⟨g, 0, none⟩).trans c0
                  replace c1 := (cell_drewN w1 nq ⟨g, 1, none⟩).trans c1
                  replace c3 := (cell_drewN w1 nq ⟨g, 3, none⟩).trans c3
                  replace c4 := (cell_drewN w1 nq ⟨g, 4, none⟩).trans c4
                  replace c5 := (cell_drewN w1 nq ⟨g, 5, none⟩).trans c5
                  replace d0 := (cell_drewN w1 nq ⟨w.heap.size, 0, none⟩).trans d0
                  replace d1 := (cell_drewN w1 nq ⟨w.heap.size, 1, none⟩).trans d1
                  replace d2 := (cell_drewN w1 nq ⟨w.heap.size, 2, none⟩).trans d2
                  replace d3 := (cell_drewN w1 nq ⟨w.heap.size, 3, none⟩).trans d3
                  replace d4 := (cell_drewN w1 nq ⟨w.heap.size, 4, none⟩).trans d4
                  replace d5 := (cell_drewN w1 nq ⟨w.heap.size, 5, none⟩).trans d5
                  replace d6 := (cell_drewN w1 nq ⟨w.heap.size, 6, none⟩).trans d6
                  clear b1 B1 hc0 hf0 hs0 hz0 c2
                  generalize w1.drewN nq = W at *
                  go_quiet ((go_at_call 145; first | with_reducible exact Calls.quiet_of_same (field_q _ _ _ _ _ H0.out _) | with_reducible exact Calls.quiet_of_same (field_q _ _ _ _ _ H1.out _) | with_reducible exact Calls.quiet_of_same (field_q _ _ _ _ _ H2.out _) | with_reducible exact Calls.quiet_of_same (field_q _ _ _ _ _ H3.out _) | with_reducible exact Calls.quiet_of_same (field_q _ _ _ _ _ H4.out _)))
                  go_wp2_with fail
                  go_ret
                  exact ⟨by rw [hr.out]; rfl, by (repeat (first | (with_reducible exact Below.refl _ _) | (with_reducible assumption) | (with_reducible refine Below.setCell ?_ ?side _; case side => first | (with_reducible exact Nat.le_refl _) | (simp; done) | (simp only [World.size_alloc, World.size_setCell, World.size_drew, World.heap_drewN] at *; omega)) | (with_reducible refine below_alloc ?_ _) | (with_reducible refine Below.drew ?_) | (with_reducible refine below_drewN ?_) | (with_reducible refine below_via (by assumption) ?_)))⟩
              | true =>
                go_wp2_with fail
                go_quiet ((go_at_call 145; first | with_reducible exact Calls.quiet_of_same (field_q _ _ _ _ _ H0.out _) | with_reducible exact Calls.quiet_of_same (field_q _ _ _ _ _ H1.out _) | with_reducible exact Calls.quiet_of_same (field_q _ _ _ _ _ H2.out _) | with_reducible exact Calls.quiet_of_same (field_q _ _ _ _ _ H3.out _) | with_reducible exact Calls.quiet_of_same (field_q _ _ _ _ _ H4.out _)))
                go_wp2_with fail
                have BW : Below w.heap.size w (w1.drewN nq) := by (repeat (first | (with_reducible exact Below.refl _ _) | (with_reducible assumption) | (with_reducible refine Below.setCell ?_ ?side _; case side => first | (with_reducible exact Nat.le_refl _) | (simp; done) | (simp only [World.size_alloc, World.size_setCell, World.size_drew, World.heap_drewN] at *; omega)) | (with_reducible refine below_alloc ?_ _) | (with_reducible refine Below.drew ?_) | (with_reducible refine below_drewN ?_) | (with_reducible refine below_via (by assumption) ?_)))
                replace c0 := (cell_drewN w1 nq ⟨g, 0, none⟩).trans c0
                replace c1 := (cell_drewN w1 nq ⟨g, 1, none⟩).trans c1
                replace c3 := (cell_drewN w1 nq ⟨g, 3, none⟩).trans c3
                replace c4 := (cell_drewN w1 nq ⟨g, 4, none⟩).trans c4
                replace c5 := (cell_drewN w1 nq ⟨g, 5, none⟩).trans c5
                replace d0 := (cell_drewN w1 nq ⟨w.heap.size, 0, none⟩).trans d0
                replace d1 := (cell_drewN w1 nq ⟨w.heap.size, 1, none⟩).trans d1
                replace d2 := (cell_drewN w1 nq ⟨w.heap.size, 2, none⟩).trans d2
                replace d3 := (cell_drewN w1 nq ⟨w.heap.size, 3, none⟩).trans d3
                replace d4 := (cell_drewN w1 nq ⟨w.heap.size, 4, none⟩).trans d4
                replace d5 := (cell_drewN w1 nq ⟨w.heap.size, 5, none⟩).trans d5
                replace d6 := (cell_drewN w1 nq ⟨w.heap.size, 6, none⟩).trans d6
                clear b1 B1 hc0 hf0 hs0 hz0 c2
                generalize w1.drewN nq = W at *
                go_quiet ((go_at_call 145; first | with_reducible exact Calls.quiet_of_same (field_q _ _ _ _ _ H0.out _) | with_reducible exact Calls.quiet_of_same (field_q _ _ _ _ _ H1.out _) | with_reducible exact Calls.quiet_of_same (field_q _ _ _ _ _ H2.out _) | with_reducible exact Calls.quiet_of_same (field_q _ _ _ _ _ H3.out _) | with_reducible exact Calls.quiet_of_same (field_q _ _ _ _ _ H4.out _)))
                go_wp2_with fail
                go_ret
                exact ⟨by rw [hr.out]; rfl, by (repeat (first | (with_reducible exact Below.refl _ _) | (with_reducible assumption) | (with_reducible refine Below.setCell ?_ ?side _; case side => first | (with_reducible exact Nat.le_refl _) | (simp; done) | (simp only [World.size_alloc, World.size_setCell, World.size_drew, World.heap_drewN] at *; omega)) | (with_reducible refine below_alloc ?_ _) | (with_reducible refine Below.drew ?_) | (with_reducible refine below_drewN ?_) | (with_reducible refine below_via (by assumption) ?_)))⟩
        | true =>
          by_cases ct : ch = too
          · subst ct
            have ct1 : decide (ch = ch) = true := decide_eq_true rfl
            rw [ct1] at hr
            go_wp2_with fail
            go_quiet ((go_at_call 145; first | with_reducible exact Calls.quiet_of_same (field_q _ _ _ _ _ H0.out _) | with_reducible exact Calls.quiet_of_same (field_q _ _ _ _ _ H1.out _) | with_reducible exact Calls.quiet_of_same (field_q _ _ _ _ _ H2.out _) | with_reducible exact Calls.quiet_of_same (field_q _ _ _ _ _ H3.out _) | with_reducible exact Calls.quiet_of_same (field_q _ _ _ _ _ H4.out _)))
            go_wp2_with fail
            go_ret
            exact ⟨by rw [hr.out]; rfl, by (repeat (first | (with_reducible exact Below.refl _ _) | (with_reducible assumption) | (with_reducible refine Below.setCell ?_ ?side _; case side => first | (with_reducible exact Nat.le_refl _) | (simp; done) | (simp only [World.size_alloc, World.size_setCell, World.size_drew, World.heap_drewN] at *; omega)) | (with_reducible refine below_alloc ?_ _) | (with_reducible refine Below.drew ?_) | (with_reducible refine below_drewN ?_) | (with_reducible refine below_via (by assumption) ?_)))⟩
          · have ct1 : decide (ch = too) = false := decide_eq_false ct
            rw [ct1] at hr
            have ct2 : ((ch : Int) == too) = false := by simp [ct]
            cases v3 with
            | false =>
              go_wp2_with fail
              go_quiet ((go_at_call 145; first | with_reducible exact Calls.quiet_of_same (field_q _ _ _ _ _ H0.out _) | with_reducible exact Calls.quiet_of_same (field_q _ _ _ _ _ H1.out _) | with_reducible exact Calls.quiet_of_same (field_q _ _ _ _ _ H2.out _) | with_reducible exact Calls.quiet_of_same (field_q _ _ _ _ _ H3.out _) | with_reducible exact Calls.quiet_of_same (field_q _ _ _ _ _ H4.out _)))
              go_wp2_with fail
              have BW : Below w.heap.size w (w1.drewN nq) := by (repeat (first | (with_reducible exact Below.refl _ _) | (with_reducible assumption) | (with_reducible refine Below.setCell ?_ ?side _; case side => first | (with_reducible exact Nat.le_refl _) | (simp; done) | (simp only [World.size_alloc, World.size_setCell, World.size_drew, World.heap_drewN] at *; omega)) | (with_reducible refine below_alloc ?_ _) | (with_reducible refine Below.drew ?_) | (with_reducible refine below_drewN ?_) | (with_reducible refine below_via (by assumption) ?_)))
              replace c0 := (cell_drewN w1 nq ⟨g, 0, none⟩).trans c0
              replace c1 := (cell_drewN w1 nq ⟨g, 1, none⟩).trans c1
              replace c3 := (cell_drewN w1 nq ⟨g, 3, none⟩).trans c3
              replace c4 := (cell_drewN w1 nq ⟨g, 4, none⟩).trans c4
              replace c5 := (cell_drewN w1 nq ⟨g, 5, none⟩).trans c5
              replace d0 := (cell_drewN w1 nq ⟨w.heap.size, 0, none⟩).trans d0
              replace d1 := (cell_drewN w1 nq ⟨w.heap.size, 1, none⟩).trans d1
              replace d2 := (cell_drewN w1 nq ⟨w.heap.size, 2, none⟩).trans d2
              replace d3 := (cell_drewN w1 nq ⟨w.heap.size, 3, none⟩).trans d3
              replace d4 := (cell_drewN w1 nq ⟨w.heap.size, 4, none⟩).trans d4
              replace d5 := (cell_drewN w1 nq ⟨w.heap.size, 5, none⟩).trans d5
              replace d6 := (cell_drewN w1 nq ⟨w.heap.size, 6, none⟩).trans d6
              clear b1 B1 hc0 hf0 hs0 hz0 c2
              generalize w1.drewN nq = W at *
              go_quiet ((go_at_call 145; first | with_reducible exact Calls.quiet_of_same (field_q _ _ _ _ _ H0.out _) | with_reducible exact Calls.quiet_of_same (field_q _ _ _ _ _ H1.out _) | with_reducible exact Calls.quiet_of_same (field_q _ _ _ _ _ H2.out _) | with_reducible exact Calls.quiet_of_same (field_q _ _ _ _ _ H3.out _) | with_reducible exact Calls.quiet_of_same (field_q _ _ _ _ _ H4.out _)))
              go_wp2_with fail
              go_ret
              exact ⟨by rw [hr.out]; rfl, by (repeat (first | (with_reducible exact Below.refl _ _) | (with_reducible assumption) | (with_reducible refine Below.setCell ?_ ?side _; case side => first | (with_reducible exact Nat.le_refl _) | (simp; done) | (simp only [World.size_alloc, World.size_setCell, World.size_drew, World.heap_drewN] at *; omega)) | (with_reducible refine below_alloc ?_ _) | (with_reducible refine Below.drew ?_) | (with_reducible refine below_drewN ?_) | (with_reducible refine below_via (by assumption) ?_)))⟩
            | true =>
              cases v4 with
              | false =>
                go_wp2_with fail
                go_quiet ((go_at_call 145; first | with_reducible exact Calls.quiet_of_same (field_q _ _ _ _ _ H0.out _) | with_reducible exact Calls.quiet_of_same (field_q _ _ _ _ _ H1.out _) | with_reducible exact Calls.quiet_of_same (field_q _ _ _ _ _ H2.out _) | with_reducible exact Calls.quiet_of_same (field_q _ _ _ _ _ H3.out _) | with_reducible exact Calls.quiet_of_same (field_q _ _ _ _ _ H4.out _)))
                go_wp2_with fail
                have BW : Below w.heap.size w (w1.drewN nq) := by (repeat (first | (with_reducible exact Below.refl _ _) | (with_reducible assumption) | (with_reducible refine Below.setCell ?_ ?side _; case side => first | (with_reducible exact Nat.le_refl _) | (simp; done) | (simp only [World.size_alloc, World.size_setCell, World.size_drew, World.heap_drewN] at *; omega)) | (with_reducible refine below_alloc ?_ _) | (with_reducible refine Below.drew ?_) | (with_reducible refine below_drewN ?_) | (with_reducible refine below_via (by assumption) ?_)))
                replace c0 := (cell_drewN w1 nq ⟨g, 0, none⟩).trans c0
                replace c1 := (cell_drewN w1 nq ⟨g, 1, none⟩).trans c1
                replace c3 := (cell_drewN w1 nq ⟨g, 3, none⟩).trans c3
                replace c4 := (cell_drewN w1 nq ⟨g, 4, none⟩).trans c4
                replace c5 := (cell_drewN w1 nq ⟨g, 5, none⟩).trans c5
                replace d0 := (cell_drewN w1 nq ⟨w.heap.size, 0, none⟩).trans d0
                replace d1 := (cell_drewN w1 nq ⟨w.heap.size, 1, none⟩).trans d1
                replace d2 := (cell_drewN w1 nq ⟨w.heap.size, 2, none⟩).trans d2
                replace d3 := (cell_drewN w1 nq ⟨w.heap.size, 3, none⟩).trans d3
                replace d4 := (cell_drewN w1 nq ⟨w.heap.size, 4, none⟩).trans d4
                replace d5 := (cell_drewN w1 nq ⟨w.heap.size, 5, none⟩).trans d5
                replace d6 := (cell_drewN w1 nq ⟨w.heap.size, 6, none⟩).trans d6
                clear b1 B1 hc0 hf0 hs0 hz0 c2
                generalize w1.drewN nq = W at *
                go_quiet ((go_at_call 145; first | with_reducible exact Calls.quiet_of_same (field_q _ _ _ _ _ H0.out _) | with_reducible exact Calls.quiet_of_same (field_q _ _ _ _ _ H1.out _) | with_reducible exact Calls.quiet_of_same (field_q _ _ _ _ _ H2.out _) | with_reducible exact Calls.quiet_of_same (field_q _ _ _ _ _ H3.out _) | with_reducible exact Calls.quiet_of_same (field_q _ _ _ _ _ H4.out _)))
                go_wp2_with fail
                go_ret
                exact ⟨by rw [hr.out]; rfl, by (repeat (first | (with_reducible exact Below.refl _ _) | (with_reducible assumption) | (with_reducible refine Below.setCell ?_ ?side _; case side => first | (with_reducible exact Nat.le_refl _) | (simp; done) | (simp only [World.size_alloc, World.size_setCell, World.size_drew, World.heap_drewN] at *; omega)) | (with_reducible refine below_alloc ?_ _) | (with_reducible refine Below.drew ?_) | (with_reducible refine below_drewN ?_) | (with_reducible refine below_via (by assumption) ?_)))⟩
              | true =>
                cases h5 with
                | false =>
                  cases yes with
                  | false =>
                    go_wp2_with fail
                    go_quiet ((go_at_call 145; first | with_reducible exact Calls.quiet_of_same (field_q _ _ _ _ _ H0.out _) | with_reducible exact Calls.quiet_of_same (field_q _ _ _ _ _ H1.out _) | with_reducible exact Calls.quiet_of_same (field_q _ _ _ _ _ H2.out _) | with_reducible exact Calls.quiet_of_same (field_q _ _ _ _ _ H3.out _) | with_reducible exact Calls.quiet_of_same (field_q _ _ _ _ _ H4.out _)))
                    go_wp2_with fail
                    have BW : Below w.heap.size w (w1.drewN nq) := by (repeat (first | (with_reducible exact Below.refl _ _) | (with_reducible assumption) | (with_reducible refine Below.setCell ?_ ?side _; case side => first | (with_reducible exact Nat.le_refl _) | (simp; done) | (simp only [World.size_alloc, World.size_setCell, World.size_drew, World.heap_drewN] at *; omega)) | (with_reducible refine below_alloc ?_ _) | (with_reducible refine Below.drew ?_) | (with_reducible refine below_drewN ?_) | (with_reducible refine below_via (by assumption) ?_)))
                    replace c0 := (cell_drewN w1 nq ⟨g, 0, none⟩).trans c0
                    replace c1 := (cell_drewN w1 nq ⟨g, 1, none⟩).trans c1
                    replace c3 := (cell_drewN w1 nq ⟨g, 3, none⟩).trans c3
                    replace c4 := (cell_drewN w1 nq ⟨g, 4, none⟩).trans c4
                    replace c5 := (cell_drewN w1 nq ⟨g, 5, none⟩).trans c5
                    replace d0 := (cell_drewN w1 nq ⟨w.heap.size, 0, none⟩).trans d0
                    replace d1 := (cell_drewN w1 nq ⟨w.heap.size, 1, none⟩).trans d1
                    replace d2 := (cell_drewN w1 nq ⟨w.heap.size, 2, none⟩).trans d2
                    replace d3 := (cell_drewN w1 nq ⟨w.heap.size, 3, none⟩).trans d3
                    replace d4 := (cell_drewN w1 nq ⟨w.heap.size, 4, none⟩).trans d4
                    replace d5 := (cell_drewN w1 nq ⟨w.heap.size, 5, none⟩).trans d5
                    replace d6 := (cell_drewN w1 nq ⟨w.heap.size, 6, none⟩).trans d6
                    clear b1 B1 hc0 hf0 hs0 hz0 c2
                    generalize w1.drewN nq = W at *
                    go_quiet ((go_at_call 145; first | with_reducible exact Calls.quiet_of_same (field_q _ _ _ _ _ H0.out _) | with_reducible exact Calls.quiet_of_same (field_q _ _ _ _ _ H1.out _) | with_reducible exact Calls.quiet_of_same (field_q _ _ _ _ _ H2.out _) | with_reducible exact Calls.quiet_of_same (field_q _ _ _ _ _ H3.out _) | with_reducible exact Calls.quiet_of_same (field_q _ _ _ _ _ H4.out _)))
                    go_wp2_with fail
                    go_ret
                    exact ⟨by rw [hr.out]; rfl, by (repeat (first | (with_reducible exact Below.refl _ _) | (with_reducible assumption) | (with_reducible refine Below.setCell ?_ ?side _; case side => first | (with_reducible exact Nat.le_refl _) | (simp; done) | (simp only [World.size_alloc, World.size_setCell, World.size_drew, World.heap_drewN] at *; omega)) | (with_reducible refine below_alloc ?_ _) | (with_reducible refine Below.drew ?_) | (with_reducible refine below_drewN ?_) | (with_reducible refine below_via (by assumption) ?_)))⟩
                  | true =>
                    go_wp2_with fail
                    go_quiet ((go_at_call 145; first | with_reducible exact Calls.quiet_of_same (field_q _ _ _ _ _ H0.out _) | with_reducible exact Calls.quiet_of_same (field_q _ _ _ _ _ H1.out _) | with_reducible exact Calls.quiet_of_same (field_q _ _ _ _ _ H2.out _) | with_reducible exact Calls.quiet_of_same (field_q _ _ _ _ _ H3.out _) | with_reducible exact Calls.quiet_of_same (field_q _ _ _ _ _ H4.out _)))
                    go_wp2_with fail
                    have BW : Below w.heap.size w (w1.drewN nq) := by (repeat (first | (with_reducible exact Below.refl _ _) | (with_reducible assumption) | (with_reducible refine Below.setCell ?_ ?side _; case side => first | (with_reducible exact Nat.le_refl _) | (simp; done) | (simp only [World.size_alloc, World.size_setCell, World.size_drew, World.heap_drewN] at *; omega)) | (with_reducible refine below_alloc ?_ _) | (with_reducible refine Below.drew ?_) | (with_reducible refine below_drewN ?_) | (with_reducible refine below_via (by assumption) ?_)))
                    replace c0 := (cell_drewN w1 nq ⟨g, 0, none⟩).trans c0
                    replace c1 := (cell_drewN w1 nq ⟨g, 1, none⟩).trans c1
                    replace c3 := (cell_drewN w1 nq ⟨g, 3, none⟩).trans c3
                    replace c4 := (cell_drewN w1 nq ⟨g, 4, none⟩).trans c4
                    replace c5 := (cell_drewN w1 nq ⟨g, 5, none⟩).trans c5
                    replace d0 := (cell_drewN w1 nq ⟨w.heap.size, 0, none⟩).trans d0
                    replace d1 := (cell_drewN w1 nq ⟨w.heap.size, 1, none⟩).trans d1
                    replace d2 := (cell_drewN w1 nq ⟨w.heap.size, 2, none⟩).trans d2
                    replace d3 := (cell_drewN w1 nq ⟨w.heap.size, 3, none⟩).trans d3
                    replace d4 := (cell_drewN w1 nq ⟨w.heap.size, 4, none⟩).trans d4
                    replace d5 := (cell_drewN w1 nq ⟨w.heap.size, 5, none⟩).trans d5
                    replace d6 := (cell_drewN w1 nq ⟨w.heap.size, 6, none⟩).trans d6
                    clear b1 B1 hc0 hf0 hs0 hz0 c2
                    generalize w1.drewN nq = W at *
                    go_quiet ((go_at_call 145; first | with_reducible exact Calls.quiet_of_same (field_q _ _ _ _ _ H0.out _) | with_reducible exact Calls.quiet_of_same (field_q _ _ _ _ _ H1.out _) | with_reducible exact Calls.quiet_of_same (field_q _ _ _ _ _ H2.out _) | with_reducible exact Calls.quiet_of_same (field_q _ _ _ _ _ H3.out _) | with_reducible exact Calls.quiet_of_same (field_q _ _ _ _ _ H4.out _)))
                    go_wp2_with fail
                    go_ret
                    exact ⟨by rw [hr.out]; rfl, by (repeat (first | (with_reducible exact Below.refl _ _) | (with_reducible assumption) | (with_reducible refine Below.setCell ?_ ?side _; case side => first | (with_reducible exact Nat.le_refl _) | (simp; done) | (simp only [World.size_alloc, World.size_setCell, World.size_drew, World.heap_drewN] at *; omega)) | (with_reducible refine below_alloc ?_ _) | (with_reducible refine Below.drew ?_) | (with_reducible refine below_drewN ?_) | (with_reducible refine below_via (by assumption) ?_)))⟩
                | true =>
                  go_wp2_with fail
                  go_quiet ((go_at_call 145; first | with_reducible exact Calls.quiet_of_same (field_q _ _ _ _ _ H0.out _) | with_reducible exact Calls.quiet_of_same (field_q _ _ _ _ _ H1.out _) | with_reducible exact Calls.quiet_of_same (field_q _ _ _ _ _ H2.out _) | with_reducible exact Calls.quiet_of_same (field_q _ _ _ _ _ H3.out _) | with_reducible exact Calls.quiet_of_same (field_q _ _ _ _ _ H4.out _)))
                  go_wp2_with fail
                  have BW : Below w.heap.size w (w1.drewN nq) := by (repeat (first | (with_reducible exact Below.refl _ _) | (with_reducible assumption) | (with_reducible refine Below.setCell ?_ ?side _; case side => first | (with_reducible exact Nat.le_refl _) | (simp; done) | (simp only [World.size_alloc, World.size_setCell, World.size_drew, World.heap_drewN] at *; omega)) | (with_reducible refine below_alloc ?_ _) | (with_reducible refine Below.drew ?_) | (with_reducible refine below_drewN ?_) | (with_reducible refine below_via (by assumption) ?_)))
                  replace c0 := (cell_drewN w1 nq ⟨g, 0, none⟩).trans c0
                  replace c1 := (cell_drewN w1 nq ⟨g, 1, none⟩).trans c1
                  replace c3 := (cell_drewN w1 nq ⟨g, 3, none⟩).trans c3
                  replace c4 := (cell_drewN w1 nq ⟨g, 4, none⟩).trans c4
                  replace c5 := (cell_drewN w1 nq ⟨g, 5, none⟩).trans c5
                  replace d0 := (cell_drewN w1 nq ⟨w.heap.size, 0, none⟩).trans d0
                  replace d1 := (cell_drewN w1 nq ⟨w.heap.size, 1, none⟩).trans d1
                  replace d2 := (cell_drewN w1 nq ⟨w.heap.size, 2, none⟩).trans d2
                  replace d3 := (cell_drewN w1 nq ⟨w.heap.size, 3, none⟩).trans d3
                  replace d4 := (cell_drewN w1 nq ⟨w.heap.size, 4, none⟩).trans d4
                  replace d5 := (cell_drewN w1 nq ⟨w.heap.size, 5, none⟩).trans d5
                  replace d6 := (cell_drewN w1 nq ⟨w.heap.size, 6, none⟩).trans d6
                  clear b1 B1 hc0 hf0 hs0 hz0 c2
                  generalize w1.drewN nq = W at *
                  go_quiet ((go_at_call 145; first | with_reducible exact Calls.quiet_of_same (field_q _ _ _ _ _ H0.out _) | with_reducible exact Calls.quiet_of_same (field_q _ _ _ _ _ H1.out _) | with_reducible exact Calls.quiet_of_same (field_q _ _ _ _ _ H2.out _) | with_reducible exact Calls.quiet_of_same (field_q _ _ _ _ _ H3.out _) | with_reducible exact Calls.quiet_of_same (field_q _ _ _ _ _ H4.out _)))
                  go_wp2_with fail
                  go_ret
                  exact ⟨by rw [hr.out]; rfl, by (repeat (first | (with_reducible exact Below.refl _ _) | (with_reducible assumption) | (with_reducible refine Below.setCell ?_ ?side _; case side => first | (with_reducible exact Nat.le_refl _) | (simp; done) | (simp only [World.size_alloc, World.size_setCell, World.size_drew, World.heap_drewN] at *; omega)) | (with_reducible refine below_alloc ?_ _) | (with_reducible refine Below.drew ?_) | (with_reducible refine below_drewN ?_) | (with_reducible refine below_via (by assumption) ?_)))⟩

theorem evOk_spec (k key ch too amt fee : Int) (yes : Bool) (w : World) : Calls Tryz.prog 116 #[.agg #[.int .i64 k, .int .i64 key, .int .i64 ch, .int .i64 too, .int .i64 amt, .int .i64 fee, .bool yes]] w fun e w' => e = .returned (.bool (evOk k key ch too amt fee yes)) ∧ Below w.heap.size w w' := by
  by_cases h : 1 ≤ k ∧ k ≤ 11
  · by_cases hk : k = 4
    · subst hk
      exact evOk_spec4 key ch too amt fee yes w
    · exact evOk_specN k key ch too amt fee yes w h.1 h.2 hk
  · go_enter Tryz.func116, Tryz.ntmps116
    have hr : evOk k key ch too amt fee yes = false := by unfold evOk; rw [decide_eq_false h]; rfl
    rw [hr]
    go_wp2_with fail
    all_goals
      refine bodyPost_ret (by simp only [results, Tryz.results116]; go_simp; rfl) rfl ?_
      exact ⟨rfl, by (repeat (first | (with_reducible exact Below.refl _ _) | (with_reducible assumption) | (with_reducible refine Below.setCell ?_ ?side _; case side => first | (with_reducible exact Nat.le_refl _) | (simp; done) | (simp only [World.size_alloc, World.size_setCell, World.size_drew, World.heap_drewN] at *; omega)) | (with_reducible refine below_alloc ?_ _) | (with_reducible refine Below.drew ?_) | (with_reducible refine below_drewN ?_) | (with_reducible refine below_via (by assumption) ?_)))⟩

end Go.Proofs.YtafbdbefmlgioaaGreatDoor
