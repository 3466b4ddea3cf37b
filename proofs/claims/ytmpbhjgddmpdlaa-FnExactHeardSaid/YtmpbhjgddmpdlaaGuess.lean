/- Estimates: the tests. -/
import Derived.Test.YtmpbhjgddmpdlaaAmt
namespace Go.Proofs.Ytmpbhjgddmpdlaa
open Go.RowKit
set_option linter.unusedVariables false
set_option linter.unusedSimpArgs false

def guessOk (f t l p : Int) : Bool := chanOk f && chanOk t && decide (f ≠ t) && amtOk l && amtOk p && decide (l ≤ p)
theorem guessOk_iff (f t l p : Int) : guessOk f t l p = decide ((1 ≤ f ∧ f ≤ 99) ∧ (1 ≤ t ∧ t ≤ 99) ∧ f ≠ t ∧ (0 ≤ l ∧ l ≤ 1125899906842624) ∧ (0 ≤ p ∧ p ≤ 1125899906842624) ∧ l ≤ p) := by
  simp [guessOk, amtOk, chanOk, inB, Bool.and_assoc]
def canG (f t l p n : Int) : Bool := guessOk f t l p && inB n 1 1125899906842624
theorem canG_t {f t l p n : Int} (h : canG f t l p n = true) : ((1 ≤ f ∧ f ≤ 99) ∧ (1 ≤ t ∧ t ≤ 99) ∧ f ≠ t ∧ (0 ≤ l ∧ l ≤ 1125899906842624) ∧ (0 ≤ p ∧ p ≤ 1125899906842624) ∧ l ≤ p) ∧ 1 ≤ n ∧ n ≤ 1125899906842624 := by
  simpa [canG, guessOk_iff, inB] using h

set_option maxHeartbeats 800000 in
theorem guessOk_impl (f t l p : Int) (w : World) : Calls Try.prog 22 #[.agg #[.int .i64 f, .int .i64 t, .int .i64 l, .int .i64 p]] w fun e w' => e = .returned (.bool (guessOk f t l p)) ∧ Below w.heap.size w w' := by
  go_enter Try.func22, Try.ntmps22
  go_wp2_with (((first | (go_at_call 56; refine (isChan_impl _ _).mono ?_) | (go_at_call 52; refine (amtOk_impl _ _).mono ?_)); rintro e w1 ⟨rfl, rfl⟩))
  all_goals
    go_ret
    exact ⟨ret_bool (by (try simp only [guessOk_iff, amtOk_iff, timeOk_iff, chanOk_iff, keyOk_iff, inB, decide_eq_true_eq, Bool.and_eq_true, Bool.or_eq_true, bne_iff_ne, beq_iff_eq, ne_eq, Bool.not_eq_true, Bool.not_eq_false, decide_eq_false_iff_not, Bool.not_not] at *); first | exact tt (by omega) | exact ff (by omega) | exact dd (by omega) | (rw [Bool.eq_iff_iff]; simp only [Bool.and_eq_true, Bool.or_eq_true, decide_eq_true_eq, bne_iff_ne, ne_eq, beq_iff_eq]; omega)), by (repeat (first | (with_reducible exact Below.refl _ _) | (with_reducible assumption) | (with_reducible refine Below.setCell ?_ ?side _; case side => first | (with_reducible exact Nat.le_refl _) | (simp; done) | (simp only [World.size_alloc, World.size_setCell, World.size_drew, World.heap_drewN] at *; omega)) | (with_reducible refine below_alloc ?_ _) | (with_reducible refine Below.drew ?_) | (with_reducible refine below_drewN ?_) | (with_reducible refine below_via (by assumption) ?_)))⟩

set_option maxHeartbeats 800000 in
theorem guessOk_spec (f t l p : Int) (w : World) : Calls Try.prog 20 #[.agg #[.int .i64 f, .int .i64 t, .int .i64 l, .int .i64 p]] w fun e w' => e = .returned (.bool (guessOk f t l p)) ∧ Below w.heap.size w w' := by
  go_enter Try.func20, Try.ntmps20
  go_wp2_with (((first | (go_at_call 55; refine (isChan_spec _ _).mono ?_) | (go_at_call 50; refine (amtOk_spec _ _).mono ?_)); rintro e w1 ⟨rfl, rfl⟩))
  all_goals
    go_ret
    exact ⟨ret_bool (by (try simp only [guessOk_iff, amtOk_iff, timeOk_iff, chanOk_iff, keyOk_iff, inB, decide_eq_true_eq, Bool.and_eq_true, Bool.or_eq_true, bne_iff_ne, beq_iff_eq, ne_eq, Bool.not_eq_true, Bool.not_eq_false, decide_eq_false_iff_not, Bool.not_not] at *); first | exact tt (by omega) | exact ff (by omega) | exact dd (by omega) | (rw [Bool.eq_iff_iff]; simp only [Bool.and_eq_true, Bool.or_eq_true, decide_eq_true_eq, bne_iff_ne, ne_eq, beq_iff_eq]; omega)), by (repeat (first | (with_reducible exact Below.refl _ _) | (with_reducible assumption) | (with_reducible refine Below.setCell ?_ ?side _; case side => first | (with_reducible exact Nat.le_refl _) | (simp; done) | (simp only [World.size_alloc, World.size_setCell, World.size_drew, World.heap_drewN] at *; omega)) | (with_reducible refine below_alloc ?_ _) | (with_reducible refine Below.drew ?_) | (with_reducible refine below_drewN ?_) | (with_reducible refine below_via (by assumption) ?_)))⟩

set_option maxHeartbeats 800000 in
theorem canGuess_impl (f t l p n : Int) (w : World) : Calls Try.prog 63 #[.agg #[.int .i64 f, .int .i64 t, .int .i64 l, .int .i64 p], .int .i64 n] w fun e w' => e = .returned (.bool (canG f t l p n)) ∧ Below w.heap.size w w' := by
  go_enter Try.func63, Try.ntmps63
  go_wp2_with (((first | (go_at_call 22; refine (guessOk_impl _ _ _ _ _).mono ?_) | (go_at_call 53; refine (in_impl _ _ _ _).mono ?_)); (first | (rintro e w1 ⟨rfl, rfl⟩) | (rintro e w1 ⟨rfl, hb⟩; (try (replace H0 := below_upd H0 hb (by (repeat (first | (with_reducible assumption) | (with_reducible refine Below.setCell ?_ (by first | (simp; done) | (simp [*]; done)) _) | (with_reducible refine below_alloc ?_ _) | (with_reducible refine Below.drew ?_) | (with_reducible refine below_drewN ?_)))); clear hc0 hf0 hs0 hz0; obtain ⟨hc0, hf0, hs0, hz0⟩ := brules H0)); (try (replace H1 := below_upd H1 hb (by (repeat (first | (with_reducible assumption) | (with_reducible refine Below.setCell ?_ (by first | (simp; done) | (simp [*]; done)) _) | (with_reducible refine below_alloc ?_ _) | (with_reducible refine Below.drew ?_) | (with_reducible refine below_drewN ?_)))); clear hc1 hf1 hs1 hz1; obtain ⟨hc1, hf1, hs1, hz1⟩ := brules H1)); (try (replace H2 := below_upd H2 hb (by (repeat (first | (with_reducible assumption) | (with_reducible refine Below.setCell ?_ (by first | (simp; done) | (simp [*]; done)) _) | (with_reducible refine below_alloc ?_ _) | (with_reducible refine Below.drew ?_) | (with_reducible refine below_drewN ?_)))); clear hc2 hf2 hs2 hz2; obtain ⟨hc2, hf2, hs2, hz2⟩ := brules H2)); (first | ((fail_if_success (have ht := H0)); have H0 := hb; obtain ⟨hc0, hf0, hs0, hz0⟩ := brules H0) | ((fail_if_success (have ht := H1)); have H1 := hb; obtain ⟨hc1, hf1, hs1, hz1⟩ := brules H1) | ((fail_if_success (have ht := H2)); have H2 := hb; obtain ⟨hc2, hf2, hs2, hz2⟩ := brules H2) | skip)))))
  all_goals
    go_ret
    exact ⟨ret_bool (by (try clear hbc); (try clear hbf); (try clear hbs); (try clear hbz); (try clear hb); first | (simp [canG, *]; done) | (simp_all [canG, amtOk, inB] <;> omega)), by (repeat (first | (with_reducible exact Below.refl _ _) | (with_reducible assumption) | (with_reducible refine Below.setCell ?_ ?side _; case side => first | (with_reducible exact Nat.le_refl _) | (simp; done) | (simp only [World.size_alloc, World.size_setCell, World.size_drew, World.heap_drewN] at *; omega)) | (with_reducible refine below_alloc ?_ _) | (with_reducible refine Below.drew ?_) | (with_reducible refine below_drewN ?_) | (with_reducible refine below_via (by assumption) ?_)))⟩

set_option maxHeartbeats 800000 in
theorem canGuess_spec (f t l p n : Int) (w : World) : Calls Try.prog 62 #[.agg #[.int .i64 f, .int .i64 t, .int .i64 l, .int .i64 p], .int .i64 n] w fun e w' => e = .returned (.bool (canG f t l p n)) ∧ Below w.heap.size w w' := by
  go_enter Try.func62, Try.ntmps62
  go_wp2_with (((first | (go_at_call 20; refine (guessOk_spec _ _ _ _ _).mono ?_) | (go_at_call 50; refine (amtOk_spec _ _).mono ?_)); (first | (rintro e w1 ⟨rfl, rfl⟩) | (rintro e w1 ⟨rfl, hb⟩; (try (replace H0 := below_upd H0 hb (by (repeat (first | (with_reducible assumption) | (with_reducible refine Below.setCell ?_ (by first | (simp; done) | (simp [*]; done)) _) | (with_reducible refine below_alloc ?_ _) | (with_reducible refine Below.drew ?_) | (with_reducible refine below_drewN ?_)))); clear hc0 hf0 hs0 hz0; obtain ⟨hc0, hf0, hs0, hz0⟩ := brules H0)); (try (replace H1 := below_upd H1 hb (by (repeat (first | (with_reducible assumption) | (with_reducible refine Below.setCell ?_ (by first | (simp; done) | (simp [*]; done)) _) | (with_reducible refine below_alloc ?_ _) | (with_reducible refine Below.drew ?_) | (with_reducible refine below_drewN ?_)))); clear hc1 hf1 hs1 hz1; obtain ⟨hc1, hf1, hs1, hz1⟩ := brules H1)); (try (replace H2 := below_upd H2 hb (by (repeat (first | (with_reducible assumption) | (with_reducible refine Below.setCell ?_ (by first | (simp; done) | (simp [*]; done)) _) | (with_reducible refine below_alloc ?_ _) | (with_reducible refine Below.drew ?_) | (with_reducible refine below_drewN ?_)))); clear hc2 hf2 hs2 hz2; obtain ⟨hc2, hf2, hs2, hz2⟩ := brules H2)); (first | ((fail_if_success (have ht := H0)); have H0 := hb; obtain ⟨hc0, hf0, hs0, hz0⟩ := brules H0) | ((fail_if_success (have ht := H1)); have H1 := hb; obtain ⟨hc1, hf1, hs1, hz1⟩ := brules H1) | ((fail_if_success (have ht := H2)); have H2 := hb; obtain ⟨hc2, hf2, hs2, hz2⟩ := brules H2) | skip)))))
  all_goals
    go_ret
    exact ⟨ret_bool (by (try clear hbc); (try clear hbf); (try clear hbs); (try clear hbz); (try clear hb); first | (simp [canG, *]; done) | (simp_all [canG, amtOk, inB] <;> omega)), by (repeat (first | (with_reducible exact Below.refl _ _) | (with_reducible assumption) | (with_reducible refine Below.setCell ?_ ?side _; case side => first | (with_reducible exact Nat.le_refl _) | (simp; done) | (simp only [World.size_alloc, World.size_setCell, World.size_drew, World.heap_drewN] at *; omega)) | (with_reducible refine below_alloc ?_ _) | (with_reducible refine Below.drew ?_) | (with_reducible refine below_drewN ?_) | (with_reducible refine below_via (by assumption) ?_)))⟩

def wentL (l p n : Int) : Int := max (l - n) 0
def wentP (l p n : Int) : Int := max (p - n) 0
def stuckP (l p n : Int) : Int := min p (n - 1)
def stuckL (l p n : Int) : Int := min l (stuckP l p n)
def heardL (l p n : Int) : Int := max l n
def heardP (l p n : Int) : Int := max p (heardL l p n)

set_option maxHeartbeats 400000 in
theorem l17Less_spec (n a : Int) (w : World) (hn : 0 ≤ n ∧ n ≤ 1125899906842624) (ha : 1 ≤ a ∧ a ≤ 1125899906842624) : Calls Try.prog 66 #[.int .i64 n, .int .i64 a] w fun e w' => e = .returned (.int .i64 (max (n - a) 0)) ∧ w = w' := by
  go_enter Try.func66, Try.ntmps66
  go_wp2
  all_goals
    go_ret
    exact ⟨ret_int (by omega), rfl⟩

end Go.Proofs.Ytmpbhjgddmpdlaa
