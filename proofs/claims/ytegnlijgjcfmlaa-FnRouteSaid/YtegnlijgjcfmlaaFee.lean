/- Fees. -/
import Derived.Test.YtegnlijgjcfmlaaMulDiv
import Derived.Test.YtegnlijgjcfmlaaAdd
namespace Go.Proofs.Ytegnlijgjcfmlaa
open Go.RowKit
set_option linter.unusedVariables false
set_option linter.unusedSimpArgs false

def feeQ (p n : Int) (up : Bool) : Int := dvq n p 1000000 + if up = true ∧ 0 < dvr n p 1000000 then 1 else 0
def feeB (b p n : Int) (up : Bool) : Bool := dv n p 1000000 && decide (p ≤ 1000000) && addOk b (feeQ p n up)
def feeV (b p n : Int) (up : Bool) : Int := if feeB b p n up = true then b + feeQ p n up else 0
theorem fee_t {b p n : Int} {up : Bool} (h : feeB b p n up = true) : feeV b p n up = b + feeQ p n up := if_pos h
theorem fee_f {b p n : Int} {up : Bool} (h : feeB b p n up = false) : feeV b p n up = 0 := if_neg (by rw [h]; simp)
theorem feeQ_bd (p n : Int) (up : Bool) : 0 ≤ feeQ p n up ∧ feeQ p n up ≤ 1125899906842625 := by
  have := dvq_bd n p 1000000
  unfold feeQ
  split <;> omega
theorem feeV_bd (b p n : Int) (up : Bool) : 0 ≤ feeV b p n up ∧ feeV b p n up ≤ 1125899906842624 := by
  cases h : feeB b p n up with
  | false => rw [fee_f h]; omega
  | true =>
    rw [fee_t h]
    simp only [feeB, Bool.and_eq_true] at h
    have := addOk_t h.2
    omega
theorem feeB_1 {b p n : Int} {up : Bool} (h : dv n p 1000000 = false) : feeB b p n up = false := by simp [feeB, h]
theorem feeB_2 {b p n : Int} {up : Bool} (h : 1000000 < p) : feeB b p n up = false := by
  have : ¬ p ≤ 1000000 := by omega
  simp [feeB, this]
theorem feeB_3 {b p n : Int} {up : Bool} (h : dv n p 1000000 = true) (h2 : p ≤ 1000000) : feeB b p n up = addOk b (feeQ p n up) := by simp [feeB, h, h2]
theorem dv_f0 {n p : Int} (h : p < 0) : dv n p 1000000 = false := by
  have : amtOk p = false := decide_eq_false (by omega)
  simp [dv, dvIn, this]
theorem dv_f1 {n p : Int} (h : amtOk n = false) : dv n p 1000000 = false := by simp [dv, dvIn, h]
theorem feeB_4 {b p n : Int} {up : Bool} (h : amtOk b = false) : feeB b p n up = false := by simp [feeB, addOk, h]

set_option maxHeartbeats 1600000 in
theorem fee_impl (b p n : Int) (up : Bool) (w : World) : Calls Try.prog 67 #[.int .i64 b, .int .i64 p, .int .i64 n, .bool up] w fun e w' =>
    e = .returned (.tuple #[.int .i64 (feeV b p n up), .bool (feeB b p n up)]) ∧ Below w.heap.size w w' := by
  cases hdv0 : dv n p 1000000 with
  | false =>
    have Hf := Lib.hid (feeB_1 (b := b) (up := up) hdv0)
    go_enter Try.func67, Try.ntmps67
    go_wp2_with (((first | (go_at_call 92; refine (divided_impl _ _ _ _).mono ?_) | (go_at_call 97; refine (addAmt_impl _ _ _).mono ?_)); (first | (rintro e w1 ⟨rfl, rfl⟩) | (rintro e w1 ⟨rfl, hb⟩; (try (replace H0 := below_upd H0 hb (by (repeat (first | (with_reducible assumption) | (with_reducible exact Below.refl _ _) | (with_reducible refine Below.setCell ?_ (by first | (simp; done) | (simp [*]; done)) _) | (with_reducible refine below_alloc ?_ _) | (with_reducible refine Below.drew ?_) | (with_reducible refine below_drewN ?_)))); clear hc0 hf0 hs0 hz0; obtain ⟨hc0, hf0, hs0, hz0⟩ := brules H0)); (try (replace H1 := below_upd H1 hb (by (repeat (first | (with_reducible assumption) | (with_reducible exact Below.refl _ _) | (with_reducible refine Below.setCell ?_ (by first | (simp; done) | (simp [*]; done)) _) | (with_reducible refine below_alloc ?_ _) | (with_reducible refine Below.drew ?_) | (with_reducible refine below_drewN ?_)))); clear hc1 hf1 hs1 hz1; obtain ⟨hc1, hf1, hs1, hz1⟩ := brules H1)); (try (replace H2 := below_upd H2 hb (by (repeat (first | (with_reducible assumption) | (with_reducible exact Below.refl _ _) | (with_reducible refine Below.setCell ?_ (by first | (simp; done) | (simp [*]; done)) _) | (with_reducible refine below_alloc ?_ _) | (with_reducible refine Below.drew ?_) | (with_reducible refine below_drewN ?_)))); clear hc2 hf2 hs2 hz2; obtain ⟨hc2, hf2, hs2, hz2⟩ := brules H2)); (try replace S0 := S0.keep (below_via hb (by (repeat (first | (with_reducible assumption) | (with_reducible exact Below.refl _ _) | (with_reducible refine Below.setCell ?_ (by first | (simp; done) | (simp [*]; done)) _) | (with_reducible refine below_alloc ?_ _) | (with_reducible refine Below.drew ?_) | (with_reducible refine below_drewN ?_)))))); (try replace S1 := S1.keep (below_via hb (by (repeat (first | (with_reducible assumption) | (with_reducible exact Below.refl _ _) | (with_reducible refine Below.setCell ?_ (by first | (simp; done) | (simp [*]; done)) _) | (with_reducible refine below_alloc ?_ _) | (with_reducible refine Below.drew ?_) | (with_reducible refine below_drewN ?_)))))); (try replace S2 := S2.keep (below_via hb (by (repeat (first | (with_reducible assumption) | (with_reducible exact Below.refl _ _) | (with_reducible refine Below.setCell ?_ (by first | (simp; done) | (simp [*]; done)) _) | (with_reducible refine below_alloc ?_ _) | (with_reducible refine Below.drew ?_) | (with_reducible refine below_drewN ?_)))))); (try replace S3 := S3.keep (below_via hb (by (repeat (first | (with_reducible assumption) | (with_reducible exact Below.refl _ _) | (with_reducible refine Below.setCell ?_ (by first | (simp; done) | (simp [*]; done)) _) | (with_reducible refine below_alloc ?_ _) | (with_reducible refine Below.drew ?_) | (with_reducible refine below_drewN ?_)))))); (first | ((fail_if_success (have ht := H0)); have H0 := hb; obtain ⟨hc0, hf0, hs0, hz0⟩ := brules H0) | ((fail_if_success (have ht := H1)); have H1 := hb; obtain ⟨hc1, hf1, hs1, hz1⟩ := brules H1) | ((fail_if_success (have ht := H2)); have H2 := hb; obtain ⟨hc2, hf2, hs2, hz2⟩ := brules H2) | skip)))))
    go_ret2
    exact ⟨by rw [fee_f Hf.out, Hf.out]; rfl, by (repeat (first | (with_reducible exact Below.refl _ _) | (with_reducible assumption) | (with_reducible refine Below.setCell ?_ ?side _; case side => first | (with_reducible exact Nat.le_refl _) | (simp; done) | (simp only [World.size_alloc, World.size_setCell, World.size_drew, World.heap_drewN] at *; omega)) | (with_reducible refine below_alloc ?_ _) | (with_reducible refine Below.drew ?_) | (with_reducible refine below_drewN ?_) | (with_reducible refine below_via (by assumption) ?_)))⟩
  | true =>
    by_cases hp : p ≤ 1000000
    · have hdv := Lib.hid hdv0
      have hd := fun W => divided_impl n p 1000000 W
      obtain ⟨Q, hQ⟩ : ∃ Q, Q = dvq n p 1000000 := ⟨_, rfl⟩
      obtain ⟨R, hR⟩ : ∃ R, R = dvr n p 1000000 := ⟨_, rfl⟩
      have hQb := dvq_bd n p 1000000
      rw [← hQ] at hQb
      rw [← hQ, ← hR, hdv0] at hd
      have Hd := Lib.hid hd
      have HQ := Lib.hid hQ
      have HR := Lib.hid hR
      clear hd hQ hR hdv0
      by_cases hup : up = true ∧ 0 < R
      · obtain ⟨rfl, hr⟩ := hup
        have Hq : Hid (feeQ p n true = Q + 1) := by unfold Hid feeQ; rw [← HQ.out, ← HR.out, if_pos ⟨rfl, hr⟩]
        cases ha : addOk b (Q + 1) with
        | true =>
          have Hf : Hid (feeB b p n true = true) := by unfold Hid; rw [feeB_3 hdv.out hp, Hq.out, ha]
          go_enter Try.func67, Try.ntmps67
          go_wp2_with (first | (go_at_call 92; refine (Hd.out _).mono ?_; rintro e w1 ⟨rfl, hb1⟩) | ((first | (go_at_call 92; refine (divided_impl _ _ _ _).mono ?_) | (go_at_call 97; refine (addAmt_impl _ _ _).mono ?_)); (first | (rintro e w1 ⟨rfl, rfl⟩) | (rintro e w1 ⟨rfl, hb⟩; (try (replace H0 := below_upd H0 hb (by (repeat (first | (with_reducible assumption) | (with_reducible exact Below.refl _ _) | (with_reducible refine Below.setCell ?_ (by first | (simp; done) | (simp [*]; done)) _) | (with_reducible refine below_alloc ?_ _) | (with_reducible refine Below.drew ?_) | (with_reducible refine below_drewN ?_)))); clear hc0 hf0 hs0 hz0; obtain ⟨hc0, hf0, hs0, hz0⟩ := brules H0)); (try (replace H1 := below_upd H1 hb (by (repeat (first | (with_reducible assumption) | (with_reducible exact Below.refl _ _) | (with_reducible refine Below.setCell ?_ (by first | (simp; done) | (simp [*]; done)) _) | (with_reducible refine below_alloc ?_ _) | (with_reducible refine Below.drew ?_) | (with_reducible refine below_drewN ?_)))); clear hc1 hf1 hs1 hz1; obtain ⟨hc1, hf1, hs1, hz1⟩ := brules H1)); (try (replace H2 := below_upd H2 hb (by (repeat (first | (with_reducible assumption) | (with_reducible exact Below.refl _ _) | (with_reducible refine Below.setCell ?_ (by first | (simp; done) | (simp [*]; done)) _) | (with_reducible refine below_alloc ?_ _) | (with_reducible refine Below.drew ?_) | (with_reducible refine below_drewN ?_)))); clear hc2 hf2 hs2 hz2; obtain ⟨hc2, hf2, hs2, hz2⟩ := brules H2)); (try replace S0 := S0.keep (below_via hb (by (repeat (first | (with_reducible assumption) | (with_reducible exact Below.refl _ _) | (with_reducible refine Below.setCell ?_ (by first | (simp; done) | (simp [*]; done)) _) | (with_reducible refine below_alloc ?_ _) | (with_reducible refine Below.drew ?_) | (with_reducible refine below_drewN ?_)))))); (try replace S1 := S1.keep (below_via hb (by (repeat (first | (with_reducible assumption) | (with_reducible exact Below.refl _ _) | (with_reducible refine Below.setCell ?_ (by first | (simp; done) | (simp [*]; done)) _) | (with_reducible refine below_alloc ?_ _) | (with_reducible refine Below.drew ?_) | (with_reducible refine below_drewN ?_)))))); (try replace S2 := S2.keep (below_via hb (by (repeat (first | (with_reducible assumption) | (with_reducible exact Below.refl _ _) | (with_reducible refine Below.setCell ?_ (by first | (simp; done) | (simp [*]; done)) _) | (with_reducible refine below_alloc ?_ _) | (with_reducible refine Below.drew ?_) | (with_reducible refine below_drewN ?_)))))); (try replace S3 := S3.keep (below_via hb (by (repeat (first | (with_reducible assumption) | (with_reducible exact Below.refl _ _) | (with_reducible refine Below.setCell ?_ (by first | (simp; done) | (simp [*]; done)) _) | (with_reducible refine below_alloc ?_ _) | (with_reducible refine Below.drew ?_) | (with_reducible refine below_drewN ?_)))))); (first | ((fail_if_success (have ht := H0)); have H0 := hb; obtain ⟨hc0, hf0, hs0, hz0⟩ := brules H0) | ((fail_if_success (have ht := H1)); have H1 := hb; obtain ⟨hc1, hf1, hs1, hz1⟩ := brules H1) | ((fail_if_success (have ht := H2)); have H2 := hb; obtain ⟨hc2, hf2, hs2, hz2⟩ := brules H2) | skip)))))
          go_ret2
          exact ⟨by rw [fee_t Hf.out, Hf.out, Hq.out]; rfl, by (repeat (first | (with_reducible exact Below.refl _ _) | (with_reducible assumption) | (with_reducible refine Below.setCell ?_ ?side _; case side => first | (with_reducible exact Nat.le_refl _) | (simp; done) | (simp only [World.size_alloc, World.size_setCell, World.size_drew, World.heap_drewN] at *; omega)) | (with_reducible refine below_alloc ?_ _) | (with_reducible refine Below.drew ?_) | (with_reducible refine below_drewN ?_) | (with_reducible refine below_via (by assumption) ?_)))⟩
        | false =>
          have Hf : Hid (feeB b p n true = false) := by unfold Hid; rw [feeB_3 hdv.out hp, Hq.out, ha]
          go_enter Try.func67, Try.ntmps67
          go_wp2_with (first | (go_at_call 92; refine (Hd.out _).mono ?_; rintro e w1 ⟨rfl, hb1⟩) | ((first | (go_at_call 92; refine (divided_impl _ _ _ _).mono ?_) | (go_at_call 97; refine (addAmt_impl _ _ _).mono ?_)); (first | (rintro e w1 ⟨rfl, rfl⟩) | (rintro e w1 ⟨rfl, hb⟩; (try (replace H0 := below_upd H0 hb (by (repeat (first | (with_reducible assumption) | (with_reducible exact Below.refl _ _) | (with_reducible refine Below.setCell ?_ (by first | (simp; done) | (simp [*]; done)) _) | (with_reducible refine below_alloc ?_ _) | (with_reducible refine Below.drew ?_) | (with_reducible refine below_drewN ?_)))); clear hc0 hf0 hs0 hz0; obtain ⟨hc0, hf0, hs0, hz0⟩ := brules H0)); (try (replace H1 := below_upd H1 hb (by (repeat (first | (with_reducible assumption) | (with_reducible exact Below.refl _ _) | (with_reducible refine Below.setCell ?_ (by first | (simp; done) | (simp [*]; done)) _) | (with_reducible refine below_alloc ?_ _) | (with_reducible refine Below.drew ?_) | (with_reducible refine below_drewN ?_)))); clear hc1 hf1 hs1 hz1; obtain ⟨hc1, hf1, hs1, hz1⟩ := brules H1)); (try (replace H2 := below_upd H2 hb (by (repeat (first | (with_reducible assumption) | (with_reducible exact Below.refl _ _) | (with_reducible refine Below.setCell ?_ (by first | (simp; done) | (simp [*]; done)) _) | (with_reducible refine below_alloc ?_ _) | (with_reducible refine Below.drew ?_) | (with_reducible refine below_drewN ?_)))); clear hc2 hf2 hs2 hz2; obtain ⟨hc2, hf2, hs2, hz2⟩ := brules H2)); (try replace S0 := S0.keep (below_via hb (by (repeat (first | (with_reducible assumption) | (with_reducible exact Below.refl _ _) | (with_reducible refine Below.setCell ?_ (by first | (simp; done) | (simp [*]; done)) _) | (with_reducible refine below_alloc ?_ _) | (with_reducible refine Below.drew ?_) | (with_reducible refine below_drewN ?_)))))); (try replace S1 := S1.keep (below_via hb (by (repeat (first | (with_reducible assumption) | (with_reducible exact Below.refl _ _) | (with_reducible refine Below.setCell ?_ (by first | (simp; done) | (simp [*]; done)) _) | (with_reducible refine below_alloc ?_ _) | (with_reducible refine Below.drew ?_) | (with_reducible refine below_drewN ?_)))))); (try replace S2 := S2.keep (below_via hb (by (repeat (first | (with_reducible assumption) | (with_reducible exact Below.refl _ _) | (with_reducible refine Below.setCell ?_ (by first | (simp; done) | (simp [*]; done)) _) | (with_reducible refine below_alloc ?_ _) | (with_reducible refine Below.drew ?_) | (with_reducible refine below_drewN ?_)))))); (try replace S3 := S3.keep (below_via hb (by (repeat (first | (with_reducible assumption) | (with_reducible exact Below.refl _ _) | (with_reducible refine Below.setCell ?_ (by first | (simp; done) | (simp [*]; done)) _) | (with_reducible refine below_alloc ?_ _) | (with_reducible refine Below.drew ?_) | (with_reducible refine below_drewN ?_)))))); (first | ((fail_if_success (have ht := H0)); have H0 := hb; obtain ⟨hc0, hf0, hs0, hz0⟩ := brules H0) | ((fail_if_success (have ht := H1)); have H1 := hb; obtain ⟨hc1, hf1, hs1, hz1⟩ := brules H1) | ((fail_if_success (have ht := H2)); have H2 := hb; obtain ⟨hc2, hf2, hs2, hz2⟩ := brules H2) | skip)))))
          go_ret2
          exact ⟨by rw [fee_f Hf.out, Hf.out]; rfl, by (repeat (first | (with_reducible exact Below.refl _ _) | (with_reducible assumption) | (with_reducible refine Below.setCell ?_ ?side _; case side => first | (with_reducible exact Nat.le_refl _) | (simp; done) | (simp only [World.size_alloc, World.size_setCell, World.size_drew, World.heap_drewN] at *; omega)) | (with_reducible refine below_alloc ?_ _) | (with_reducible refine Below.drew ?_) | (with_reducible refine below_drewN ?_) | (with_reducible refine below_via (by assumption) ?_)))⟩
      · have Hq : Hid (feeQ p n up = Q) := by unfold Hid feeQ; rw [← HQ.out, ← HR.out, if_neg hup, Int.add_zero]
        cases up with
        | true =>
          have hr : ¬ 0 < R := fun h => hup ⟨rfl, h⟩
          clear hup
          cases ha : addOk b Q with
          | true =>
            have Hf : Hid (feeB b p n true = true) := by unfold Hid; rw [feeB_3 hdv.out hp, Hq.out, ha]
            go_enter Try.func67, Try.ntmps67
            go_wp2_with (first | (go_at_call 92; refine (Hd.out _).mono ?_; rintro e w1 ⟨rfl, hb1⟩) | ((first | (go_at_call 92; refine (divided_impl _ _ _ _).mono ?_) | (go_at_call 97; refine (addAmt_impl _ _ _).mono ?_)); (first | (rintro e w1 ⟨rfl, rfl⟩) | (rintro e w1 ⟨rfl, hb⟩; (try (replace H0 := below_upd H0 hb (by (repeat (first | (with_reducible assumption) | (with_reducible exact Below.refl _ _) | (with_reducible refine Below.setCell ?_ (by first | (simp; done) | (simp [*]; done)) _) | (with_reducible refine below_alloc ?_ _) | (with_reducible refine Below.drew ?_) | (with_reducible refine below_drewN ?_)))); clear hc0 hf0 hs0 hz0; obtain ⟨hc0, hf0, hs0, hz0⟩ := brules H0)); (try (replace H1 := below_upd H1 hb (by (repeat (first | (with_reducible assumption) | (with_reducible exact Below.refl _ _) | (with_reducible refine Below.setCell ?_ (by first | (simp; done) | (simp [*]; done)) _) | (with_reducible refine below_alloc ?_ _) | (with_reducible refine Below.drew ?_) | (with_reducible refine below_drewN ?_)))); clear hc1 hf1 hs1 hz1; obtain ⟨hc1, hf1, hs1, hz1⟩ := brules H1)); (try (replace H2 := below_upd H2 hb (by (repeat (first | (with_reducible assumption) | (with_reducible exact Below.refl _ _) | (with_reducible refine Below.setCell ?_ (by first | (simp; done) | (simp [*]; done)) _) | (with_reducible refine below_alloc ?_ _) | (with_reducible refine Below.drew ?_) | (with_reducible refine below_drewN ?_)))); clear hc2 hf2 hs2 hz2; obtain ⟨hc2, hf2, hs2, hz2⟩ := brules H2)); (try replace S0 := S0.keep (below_via hb (by (repeat (first | (with_reducible assumption) | (with_reducible exact Below.refl _ _) | (with_reducible refine Below.setCell ?_ (by first | (simp; done) | (simp [*]; done)) _) | (with_reducible refine below_alloc ?_ _) | (with_reducible refine Below.drew ?_) | (with_reducible refine below_drewN ?_)))))); (try replace S1 := S1.keep (below_via hb (by (repeat (first | (with_reducible assumption) | (with_reducible exact Below.refl _ _) | (with_reducible refine Below.setCell ?_ (by first | (simp; done) | (simp [*]; done)) _) | (with_reducible refine below_alloc ?_ _) | (with_reducible refine Below.drew ?_) | (with_reducible refine below_drewN ?_)))))); (try replace S2 := S2.keep (below_via hb (by (repeat (first | (with_reducible assumption) | (with_reducible exact Below.refl _ _) | (with_reducible refine Below.setCell ?_ (by first | (simp; done) | (simp [*]; done)) _) | (with_reducible refine below_alloc ?_ _) | (with_reducible refine Below.drew ?_) | (with_reducible refine below_drewN ?_)))))); (try replace S3 := S3.keep (below_via hb (by (repeat (first | (with_reducible assumption) | (with_reducible exact Below.refl _ _) | (with_reducible refine Below.setCell ?_ (by first | (simp; done) | (simp [*]; done)) _) | (with_reducible refine below_alloc ?_ _) | (with_reducible refine Below.drew ?_) | (with_reducible refine below_drewN ?_)))))); (first | ((fail_if_success (have ht := H0)); have H0 := hb; obtain ⟨hc0, hf0, hs0, hz0⟩ := brules H0) | ((fail_if_success (have ht := H1)); have H1 := hb; obtain ⟨hc1, hf1, hs1, hz1⟩ := brules H1) | ((fail_if_success (have ht := H2)); have H2 := hb; obtain ⟨hc2, hf2, hs2, hz2⟩ := brules H2) | skip)))))
            go_ret2
            exact ⟨by rw [fee_t Hf.out, Hf.out, Hq.out]; rfl, by (repeat (first | (with_reducible exact Below.refl _ _) | (with_reducible assumption) | (with_reducible refine Below.setCell ?_ ?side _; case side => first | (with_reducible exact Nat.le_refl _) | (simp; done) | (simp only [World.size_alloc, World.size_setCell, World.size_drew, World.heap_drewN] at *; omega)) | (with_reducible refine below_alloc ?_ _) | (with_reducible refine Below.drew ?_) | (with_reducible refine below_drewN ?_) | (with_reducible refine below_via (by assumption) ?_)))⟩
          | false =>
            have Hf : Hid (feeB b p n true = false) := by unfold Hid; rw [feeB_3 hdv.out hp, Hq.out, ha]
            go_enter Try.func67, Try.ntmps67
            go_wp2_with (first | (go_at_call 92; refine (Hd.out _).mono ?_; rintro e w1 ⟨rfl, hb1⟩) | ((first | (go_at_call 92; refine (divided_impl _ _ _ _).mono ?_) | (go_at_call 97; refine (addAmt_impl _ _ _).mono ?_)); (first | (rintro e w1 ⟨rfl, rfl⟩) | (rintro e w1 ⟨rfl, hb⟩; (try (replace H0 := below_upd H0 hb (by (repeat (first | (with_reducible assumption) | (with_reducible exact Below.refl _ _) | (with_reducible refine Below.setCell ?_ (by first | (simp; done) | (simp [*]; done)) _) | (with_reducible refine below_alloc ?_ _) | (with_reducible refine Below.drew ?_) | (with_reducible refine below_drewN ?_)))); clear hc0 hf0 hs0 hz0; obtain ⟨hc0, hf0, hs0, hz0⟩ := brules H0)); (try (replace H1 := below_upd H1 hb (by (repeat (first | (with_reducible assumption) | (with_reducible exact Below.refl _ _) | (with_reducible refine Below.setCell ?_ (by first | (simp; done) | (simp [*]; done)) _) | (with_reducible refine below_alloc ?_ _) | (with_reducible refine Below.drew ?_) | (with_reducible refine below_drewN ?_)))); clear hc1 hf1 hs1 hz1; obtain ⟨hc1, hf1, hs1, hz1⟩ := brules H1)); (try (replace H2 := below_upd H2 hb (by (repeat (first | (with_reducible assumption) | (with_reducible exact Below.refl _ _) | (with_reducible refine Below.setCell ?_ (by first | (simp; done) | (simp [*]; done)) _) | (with_reducible refine below_alloc ?_ _) | (with_reducible refine Below.drew ?_) | (with_reducible refine below_drewN ?_)))); clear hc2 hf2 hs2 hz2; obtain ⟨hc2, hf2, hs2, hz2⟩ := brules H2)); (try replace S0 := S0.keep (below_via hb (by (repeat (first | (with_reducible assumption) | (with_reducible exact Below.refl _ _) | (with_reducible refine Below.setCell ?_ (by first | (simp; done) | (simp [*]; done)) _) | (with_reducible refine below_alloc ?_ _) | (with_reducible refine Below.drew ?_) | (with_reducible refine below_drewN ?_)))))); (try replace S1 := S1.keep (below_via hb (by (repeat (first | (with_reducible assumption) | (with_reducible exact Below.refl _ _) | (with_reducible refine Below.setCell ?_ (by first | (simp; done) | (simp [*]; done)) _) | (with_reducible refine below_alloc ?_ _) | (with_reducible refine Below.drew ?_) | (with_reducible refine below_drewN ?_)))))); (try replace S2 := S2.keep (below_via hb (by (repeat (first | (with_reducible assumption) | (with_reducible exact Below.refl _ _) | (with_reducible refine Below.setCell ?_ (by first | (simp; done) | (simp [*]; done)) _) | (with_reducible refine below_alloc ?_ _) | (with_reducible refine Below.drew ?_) | (with_reducible refine below_drewN ?_)))))); (try replace S3 := S3.keep (below_via hb (by (repeat (first | (with_reducible assumption) | (with_reducible exact Below.refl _ _) | (with_reducible refine Below.setCell ?_ (by first | (simp; done) | (simp [*]; done)) _) | (with_reducible refine below_alloc ?_ _) | (with_reducible refine Below.drew ?_) | (with_reducible refine below_drewN ?_)))))); (first | ((fail_if_success (have ht := H0)); have H0 := hb; obtain ⟨hc0, hf0, hs0, hz0⟩ := brules H0) | ((fail_if_success (have ht := H1)); have H1 := hb; obtain ⟨hc1, hf1, hs1, hz1⟩ := brules H1) | ((fail_if_success (have ht := H2)); have H2 := hb; obtain ⟨hc2, hf2, hs2, hz2⟩ := brules H2) | skip)))))
            go_ret2
            exact ⟨by rw [fee_f Hf.out, Hf.out]; rfl, by (repeat (first | (with_reducible exact Below.refl _ _) | (with_reducible assumption) | (with_reducible refine Below.setCell ?_ ?side _; case side => first | (with_reducible exact Nat.le_refl _) | (simp; done) | (simp only [World.size_alloc, World.size_setCell, World.size_drew, World.heap_drewN] at *; omega)) | (with_reducible refine below_alloc ?_ _) | (with_reducible refine Below.drew ?_) | (with_reducible refine below_drewN ?_) | (with_reducible refine below_via (by assumption) ?_)))⟩
        | false =>
          clear hup
          cases ha : addOk b Q with
          | true =>
            have Hf : Hid (feeB b p n false = true) := by unfold Hid; rw [feeB_3 hdv.out hp, Hq.out, ha]
            go_enter Try.func67, Try.ntmps67
            go_wp2_with (first | (go_at_call 92; refine (Hd.out _).mono ?_; rintro e w1 ⟨rfl, hb1⟩) | ((first | (go_at_call 92; refine (divided_impl _ _ _ _).mono ?_) | (go_at_call 97; refine (addAmt_impl _ _ _).mono ?_)); (first | (rintro e w1 ⟨rfl, rfl⟩) | (rintro e w1 ⟨rfl, hb⟩; (try (replace H0 := below_upd H0 hb (by (repeat (first | (with_reducible assumption) | (with_reducible exact Below.refl _ _) | (with_reducible refine Below.setCell ?_ (by first | (simp; done) | (simp [*]; done)) _) | (with_reducible refine below_alloc ?_ _) | (with_reducible refine Below.drew ?_) | (with_reducible refine below_drewN ?_)))); clear hc0 hf0 hs0 hz0; obtain ⟨hc0, hf0, hs0, hz0⟩ := brules H0)); (try (replace H1 := below_upd H1 hb (by (repeat (first | (with_reducible assumption) | (with_reducible exact Below.refl _ _) | (with_reducible refine Below.setCell ?_ (by first | (simp; done) | (simp [*]; done)) _) | (with_reducible refine below_alloc ?_ _) | (with_reducible refine Below.drew ?_) | (with_reducible refine below_drewN ?_)))); clear hc1 hf1 hs1 hz1; obtain ⟨hc1, hf1, hs1, hz1⟩ := brules H1)); (try (replace H2 := below_upd H2 hb (by (repeat (first | (with_reducible assumption) | (with_reducible exact Below.refl _ _) | (with_reducible refine Below.setCell ?_ (by first | (simp; done) | (simp [*]; done)) _) | (with_reducible refine below_alloc ?_ _) | (with_reducible refine Below.drew ?_) | (with_reducible refine below_drewN ?_)))); clear hc2 hf2 hs2 hz2; obtain ⟨hc2, hf2, hs2, hz2⟩ := brules H2)); (try replace S0 := S0.keep (below_via hb (by (repeat (first | (with_reducible assumption) | (with_reducible exact Below.refl _ _) | (with_reducible refine Below.setCell ?_ (by first | (simp; done) | (simp [*]; done)) _) | (with_reducible refine below_alloc ?_ _) | (with_reducible refine Below.drew ?_) | (with_reducible refine below_drewN ?_)))))); (try replace S1 := S1.keep (below_via hb (by (repeat (first | (with_reducible assumption) | (with_reducible exact Below.refl _ _) | (with_reducible refine Below.setCell ?_ (by first | (simp; done) | (simp [*]; done)) _) | (with_reducible refine below_alloc ?_ _) | (with_reducible refine Below.drew ?_) | (with_reducible refine below_drewN ?_)))))); (try replace S2 := S2.keep (below_via hb (by (repeat (first | (with_reducible assumption) | (with_reducible exact Below.refl _ _) | (with_reducible refine Below.setCell ?_ (by first | (simp; done) | (simp [*]; done)) _) | (with_reducible refine below_alloc ?_ _) | (with_reducible refine Below.drew ?_) | (with_reducible refine below_drewN ?_)))))); (try replace S3 := S3.keep (below_via hb (by (repeat (first | (with_reducible assumption) | (with_reducible exact Below.refl _ _) | (with_reducible refine Below.setCell ?_ (by first | (simp; done) | (simp [*]; done)) _) | (with_reducible refine below_alloc ?_ _) | (with_reducible refine Below.drew ?_) | (with_reducible refine below_drewN ?_)))))); (first | ((fail_if_success (have ht := H0)); have H0 := hb; obtain ⟨hc0, hf0, hs0, hz0⟩ := brules H0) | ((fail_if_success (have ht := H1)); have H1 := hb; obtain ⟨hc1, hf1, hs1, hz1⟩ := brules H1) | ((fail_if_success (have ht := H2)); have H2 := hb; obtain ⟨hc2, hf2, hs2, hz2⟩ := brules H2) | skip)))))
            go_ret2
            exact ⟨by rw [fee_t Hf.out, Hf.out, Hq.out]; rfl, by (repeat (first | (with_reducible exact Below.refl _ _) | (with_reducible assumption) | (with_reducible refine Below.setCell ?_ ?side _; case side => first | (with_reducible exact Nat.le_refl _) | (simp; done) | (simp only [World.size_alloc, World.size_setCell, World.size_drew, World.heap_drewN] at *; omega)) | (with_reducible refine below_alloc ?_ _) | (with_reducible refine Below.drew ?_) | (with_reducible refine below_drewN ?_) | (with_reducible refine below_via (by assumption) ?_)))⟩
          | false =>
            have Hf : Hid (feeB b p n false = false) := by unfold Hid; rw [feeB_3 hdv.out hp, Hq.out, ha]
            go_enter Try.func67, Try.ntmps67
            go_wp2_with (first | (go_at_call 92; refine (Hd.out _).mono ?_; rintro e w1 ⟨rfl, hb1⟩) | ((first | (go_at_call 92; refine (divided_impl _ _ _ _).mono ?_) | (go_at_call 97; refine (addAmt_impl _ _ _).mono ?_)); (first | (rintro e w1 ⟨rfl, rfl⟩) | (rintro e w1 ⟨rfl, hb⟩; (try (replace H0 := below_upd H0 hb (by (repeat (first | (with_reducible assumption) | (with_reducible exact Below.refl _ _) | (with_reducible refine Below.setCell ?_ (by first | (simp; done) | (simp [*]; done)) _) | (with_reducible refine below_alloc ?_ _) | (with_reducible refine Below.drew ?_) | (with_reducible refine below_drewN ?_)))); clear hc0 hf0 hs0 hz0; obtain ⟨hc0, hf0, hs0, hz0⟩ := brules H0)); (try (replace H1 := below_upd H1 hb (by (repeat (first | (with_reducible assumption) | (with_reducible exact Below.refl _ _) | (with_reducible refine Below.setCell ?_ (by first | (simp; done) | (simp [*]; done)) _) | (with_reducible refine below_alloc ?_ _) | (with_reducible refine Below.drew ?_) | (with_reducible refine below_drewN ?_)))); clear hc1 hf1 hs1 hz1; obtain ⟨hc1, hf1, hs1, hz1⟩ := brules H1)); (try (replace H2 := below_upd H2 hb (by (repeat (first | (with_reducible assumption) | (with_reducible exact Below.refl _ _) | (with_reducible refine Below.setCell ?_ (by first | (simp; done) | (simp [*]; done)) _) | (with_reducible refine below_alloc ?_ _) | (with_reducible refine Below.drew ?_) | (with_reducible refine below_drewN ?_)))); clear hc2 hf2 hs2 hz2; obtain ⟨hc2, hf2, hs2, hz2⟩ := brules H2)); (try replace S0 := S0.keep (below_via hb (by (repeat (first | (with_reducible assumption) | (with_reducible exact Below.refl _ _) | (with_reducible refine Below.setCell ?_ (by first | (simp; done) | (simp [*]; done)) _) | (with_reducible refine below_alloc ?_ _) | (with_reducible refine Below.drew ?_) | (with_reducible refine below_drewN ?_)))))); (try replace S1 := S1.keep (below_via hb (by (repeat (first | (with_reducible assumption) | (with_reducible exact Below.refl _ _) | (with_reducible refine Below.setCell ?_ (by first | (simp; done) | (simp [*]; done)) _) | (with_reducible refine below_alloc ?_ _) | (with_reducible refine Below.drew ?_) | (with_reducible refine below_drewN ?_)))))); (try replace S2 := S2.keep (below_via hb (by (repeat (first | (with_reducible assumption) | (with_reducible exact Below.refl _ _) | (with_reducible refine Below.setCell ?_ (by first | (simp; done) | (simp [*]; done)) _) | (with_reducible refine below_alloc ?_ _) | (with_reducible refine Below.drew ?_) | (with_reducible refine below_drewN ?_)))))); (try replace S3 := S3.keep (below_via hb (by (repeat (first | (with_reducible assumption) | (with_reducible exact Below.refl _ _) | (with_reducible refine Below.setCell ?_ (by first | (simp; done) | (simp [*]; done)) _) | (with_reducible refine below_alloc ?_ _) | (with_reducible refine Below.drew ?_) | (with_reducible refine below_drewN ?_)))))); (first | ((fail_if_success (have ht := H0)); have H0 := hb; obtain ⟨hc0, hf0, hs0, hz0⟩ := brules H0) | ((fail_if_success (have ht := H1)); have H1 := hb; obtain ⟨hc1, hf1, hs1, hz1⟩ := brules H1) | ((fail_if_success (have ht := H2)); have H2 := hb; obtain ⟨hc2, hf2, hs2, hz2⟩ := brules H2) | skip)))))
            go_ret2
            exact ⟨by rw [fee_f Hf.out, Hf.out]; rfl, by (repeat (first | (with_reducible exact Below.refl _ _) | (with_reducible assumption) | (with_reducible refine Below.setCell ?_ ?side _; case side => first | (with_reducible exact Nat.le_refl _) | (simp; done) | (simp only [World.size_alloc, World.size_setCell, World.size_drew, World.heap_drewN] at *; omega)) | (with_reducible refine below_alloc ?_ _) | (with_reducible refine Below.drew ?_) | (with_reducible refine below_drewN ?_) | (with_reducible refine below_via (by assumption) ?_)))⟩
    · have Hf := Lib.hid (feeB_2 (b := b) (n := n) (up := up) (p := p) (by omega))
      go_enter Try.func67, Try.ntmps67
      go_wp2_with (((first | (go_at_call 92; refine (divided_impl _ _ _ _).mono ?_) | (go_at_call 97; refine (addAmt_impl _ _ _).mono ?_)); (first | (rintro e w1 ⟨rfl, rfl⟩) | (rintro e w1 ⟨rfl, hb⟩; (try (replace H0 := below_upd H0 hb (by (repeat (first | (with_reducible assumption) | (with_reducible exact Below.refl _ _) | (with_reducible refine Below.setCell ?_ (by first | (simp; done) | (simp [*]; done)) _) | (with_reducible refine below_alloc ?_ _) | (with_reducible refine Below.drew ?_) | (with_reducible refine below_drewN ?_)))); clear hc0 hf0 hs0 hz0; obtain ⟨hc0, hf0, hs0, hz0⟩ := brules H0)); (try (replace H1 := below_upd H1 hb (by (repeat (first | (with_reducible assumption) | (with_reducible exact Below.refl _ _) | (with_reducible refine Below.setCell ?_ (by first | (simp; done) | (simp [*]; done)) _) | (with_reducible refine below_alloc ?_ _) | (with_reducible refine Below.drew ?_) | (with_reducible refine below_drewN ?_)))); clear hc1 hf1 hs1 hz1; obtain ⟨hc1, hf1, hs1, hz1⟩ := brules H1)); (try (replace H2 := below_upd H2 hb (by (repeat (first | (with_reducible assumption) | (with_reducible exact Below.refl _ _) | (with_reducible refine Below.setCell ?_ (by first | (simp; done) | (simp [*]; done)) _) | (with_reducible refine below_alloc ?_ _) | (with_reducible refine Below.drew ?_) | (with_reducible refine below_drewN ?_)))); clear hc2 hf2 hs2 hz2; obtain ⟨hc2, hf2, hs2, hz2⟩ := brules H2)); (try replace S0 := S0.keep (below_via hb (by (repeat (first | (with_reducible assumption) | (with_reducible exact Below.refl _ _) | (with_reducible refine Below.setCell ?_ (by first | (simp; done) | (simp [*]; done)) _) | (with_reducible refine below_alloc ?_ _) | (with_reducible refine Below.drew ?_) | (with_reducible refine below_drewN ?_)))))); (try replace S1 := S1.keep (below_via hb (by (repeat (first | (with_reducible assumption) | (with_reducible exact Below.refl _ _) | (with_reducible refine Below.setCell ?_ (by first | (simp; done) | (simp [*]; done)) _) | (with_reducible refine below_alloc ?_ _) | (with_reducible refine Below.drew ?_) | (with_reducible refine below_drewN ?_)))))); (try replace S2 := S2.keep (below_via hb (by (repeat (first | (with_reducible assumption) | (with_reducible exact Below.refl _ _) | (with_reducible refine Below.setCell ?_ (by first | (simp; done) | (simp [*]; done)) _) | (with_reducible refine below_alloc ?_ _) | (with_reducible refine Below.drew ?_) | (with_reducible refine below_drewN ?_)))))); (try replace S3 := S3.keep (below_via hb (by (repeat (first | (with_reducible assumption) | (with_reducible exact Below.refl _ _) | (with_reducible refine Below.setCell ?_ (by first | (simp; done) | (simp [*]; done)) _) | (with_reducible refine below_alloc ?_ _) | (with_reducible refine Below.drew ?_) | (with_reducible refine below_drewN ?_)))))); (first | ((fail_if_success (have ht := H0)); have H0 := hb; obtain ⟨hc0, hf0, hs0, hz0⟩ := brules H0) | ((fail_if_success (have ht := H1)); have H1 := hb; obtain ⟨hc1, hf1, hs1, hz1⟩ := brules H1) | ((fail_if_success (have ht := H2)); have H2 := hb; obtain ⟨hc2, hf2, hs2, hz2⟩ := brules H2) | skip)))))
      go_ret2
      exact ⟨by rw [fee_f Hf.out, Hf.out]; rfl, by (repeat (first | (with_reducible exact Below.refl _ _) | (with_reducible assumption) | (with_reducible refine Below.setCell ?_ ?side _; case side => first | (with_reducible exact Nat.le_refl _) | (simp; done) | (simp only [World.size_alloc, World.size_setCell, World.size_drew, World.heap_drewN] at *; omega)) | (with_reducible refine below_alloc ?_ _) | (with_reducible refine Below.drew ?_) | (with_reducible refine below_drewN ?_) | (with_reducible refine below_via (by assumption) ?_)))⟩

set_option maxHeartbeats 1600000 in
theorem fee_spec (b p n : Int) (up : Bool) (w : World) : Calls Try.prog 100 #[.int .i64 b, .int .i64 p, .int .i64 n, .bool up] w fun e w' =>
    e = .returned (.tuple #[.int .i64 (feeV b p n up), .bool (feeB b p n up)]) ∧ w = w' := by
  by_cases h1 : amtOk b = true
  · by_cases h2 : amtOk n = true
    · by_cases h3 : p < 0
      · have Hf := Lib.hid (feeB_1 (b := b) (up := up) (dv_f0 (n := n) h3))
        go_enter Try.func100, Try.ntmps100
        go_wp2_with (((first | (go_at_call 47; refine (amtOk_spec _ _).mono ?_) | (go_at_call 93; refine (l01Div_spec _ _ _ _ (by omega) (by omega) (by omega)).mono ?_) | (go_at_call 66; refine (addAmt_spec _ _ _).mono ?_)); rintro e w1 ⟨rfl, rfl⟩))
        go_ret2
        exact ⟨by rw [fee_f Hf.out, Hf.out]; rfl, rfl⟩
      · by_cases hp : p ≤ 1000000
        · have hn := amtOk_t h2
          have hin : dvIn n p 1000000 = true := dvIn_of (by omega)
          have e := dv_in hin
          have hd := fun W => l01Div_spec n p 1000000 W (by omega) (by omega) (by omega)
          rw [← e.1, ← e.2.1, ← e.2.2] at hd
          clear e hin
          cases hdv0 : dv n p 1000000 with
          | false =>
            rw [hdv0] at hd
            have Hd := Lib.hid hd
            have Hf := Lib.hid (feeB_1 (b := b) (up := up) hdv0)
            clear hd hdv0
            go_enter Try.func100, Try.ntmps100
            go_wp2_with (first | (go_at_call 93; refine (Hd.out _).mono ?_; rintro e w1 ⟨rfl, rfl⟩) | ((first | (go_at_call 47; refine (amtOk_spec _ _).mono ?_) | (go_at_call 93; refine (l01Div_spec _ _ _ _ (by omega) (by omega) (by omega)).mono ?_) | (go_at_call 66; refine (addAmt_spec _ _ _).mono ?_)); rintro e w1 ⟨rfl, rfl⟩))
            go_ret2
            exact ⟨by rw [fee_f Hf.out, Hf.out]; rfl, rfl⟩
          | true =>
            have hdv := Lib.hid hdv0
            obtain ⟨Q, hQ⟩ : ∃ Q, Q = dvq n p 1000000 := ⟨_, rfl⟩
            obtain ⟨R, hR⟩ : ∃ R, R = dvr n p 1000000 := ⟨_, rfl⟩
            have hQb := dvq_bd n p 1000000
            rw [← hQ] at hQb
            rw [← hQ, ← hR, hdv0] at hd
            have Hd := Lib.hid hd
            have HQ := Lib.hid hQ
            have HR := Lib.hid hR
            clear hd hQ hR hdv0
            by_cases hup : up = true ∧ 0 < R
            · obtain ⟨rfl, hr⟩ := hup
              have Hq : Hid (feeQ p n true = Q + 1) := by unfold Hid feeQ; rw [← HQ.out, ← HR.out, if_pos ⟨rfl, hr⟩]
              cases ha : addOk b (Q + 1) with
              | true =>
                have Hf : Hid (feeB b p n true = true) := by unfold Hid; rw [feeB_3 hdv.out hp, Hq.out, ha]
                go_enter Try.func100, Try.ntmps100
                go_wp2_with (first | (go_at_call 93; refine (Hd.out _).mono ?_; rintro e w1 ⟨rfl, rfl⟩) | ((first | (go_at_call 47; refine (amtOk_spec _ _).mono ?_) | (go_at_call 93; refine (l01Div_spec _ _ _ _ (by omega) (by omega) (by omega)).mono ?_) | (go_at_call 66; refine (addAmt_spec _ _ _).mono ?_)); rintro e w1 ⟨rfl, rfl⟩))
                go_ret2
                exact ⟨by rw [fee_t Hf.out, Hf.out, Hq.out]; rfl, rfl⟩
              | false =>
                have Hf : Hid (feeB b p n true = false) := by unfold Hid; rw [feeB_3 hdv.out hp, Hq.out, ha]
                go_enter Try.func100, Try.ntmps100
                go_wp2_with (first | (go_at_call 93; refine (Hd.out _).mono ?_; rintro e w1 ⟨rfl, rfl⟩) | ((first | (go_at_call 47; refine (amtOk_spec _ _).mono ?_) | (go_at_call 93; refine (l01Div_spec _ _ _ _ (by omega) (by omega) (by omega)).mono ?_) | (go_at_call 66; refine (addAmt_spec _ _ _).mono ?_)); rintro e w1 ⟨rfl, rfl⟩))
                go_ret2
                exact ⟨by rw [fee_f Hf.out, Hf.out]; rfl, rfl⟩
            · have Hq : Hid (feeQ p n up = Q) := by unfold Hid feeQ; rw [← HQ.out, ← HR.out, if_neg hup, Int.add_zero]
              cases up with
              | true =>
                have hr : ¬ 0 < R := fun h => hup ⟨rfl, h⟩
                clear hup
                cases ha : addOk b Q with
                | true =>
                  have Hf : Hid (feeB b p n true = true) := by unfold Hid; rw [feeB_3 hdv.out hp, Hq.out, ha]
                  go_enter Try.func100, Try.ntmps100
                  go_wp2_with (first | (go_at_call 93; refine (Hd.out _).mono ?_; rintro e w1 ⟨rfl, rfl⟩) | ((first | (go_at_call 47; refine (amtOk_spec _ _).mono ?_) | (go_at_call 93; refine (l01Div_spec _ _ _ _ (by omega) (by omega) (by omega)).mono ?_) | (go_at_call 66; refine (addAmt_spec _ _ _).mono ?_)); rintro e w1 ⟨rfl, rfl⟩))
                  go_ret2
                  exact ⟨by rw [fee_t Hf.out, Hf.out, Hq.out]; rfl, rfl⟩
                | false =>
                  have Hf : Hid (feeB b p n true = false) := by unfold Hid; rw [feeB_3 hdv.out hp, Hq.out, ha]
                  go_enter Try.func100, Try.ntmps100
                  go_wp2_with (first | (go_at_call 93; refine (Hd.out _).mono ?_; rintro e w1 ⟨rfl, rfl⟩) | ((first | (go_at_call 47; refine (amtOk_spec _ _).mono ?_) | (go_at_call 93; refine (l01Div_spec _ _ _ _ (by omega) (by omega) (by omega)).mono ?_) | (go_at_call 66; refine (addAmt_spec _ _ _).mono ?_)); rintro e w1 ⟨rfl, rfl⟩))
                  go_ret2
                  exact ⟨by rw [fee_f Hf.out, Hf.out]; rfl, rfl⟩
              | false =>
                clear hup
                cases ha : addOk b Q with
                | true =>
                  have Hf : Hid (feeB b p n false = true) := by unfold Hid; rw [feeB_3 hdv.out hp, Hq.out, ha]
                  go_enter Try.func100, Try.ntmps100
                  go_wp2_with (first | (go_at_call 93; refine (Hd.out _).mono ?_; rintro e w1 ⟨rfl, rfl⟩) | ((first | (go_at_call 47; refine (amtOk_spec _ _).mono ?_) | (go_at_call 93; refine (l01Div_spec _ _ _ _ (by omega) (by omega) (by omega)).mono ?_) | (go_at_call 66; refine (addAmt_spec _ _ _).mono ?_)); rintro e w1 ⟨rfl, rfl⟩))
                  go_ret2
                  exact ⟨by rw [fee_t Hf.out, Hf.out, Hq.out]; rfl, rfl⟩
                | false =>
                  have Hf : Hid (feeB b p n false = false) := by unfold Hid; rw [feeB_3 hdv.out hp, Hq.out, ha]
                  go_enter Try.func100, Try.ntmps100
                  go_wp2_with (first | (go_at_call 93; refine (Hd.out _).mono ?_; rintro e w1 ⟨rfl, rfl⟩) | ((first | (go_at_call 47; refine (amtOk_spec _ _).mono ?_) | (go_at_call 93; refine (l01Div_spec _ _ _ _ (by omega) (by omega) (by omega)).mono ?_) | (go_at_call 66; refine (addAmt_spec _ _ _).mono ?_)); rintro e w1 ⟨rfl, rfl⟩))
                  go_ret2
                  exact ⟨by rw [fee_f Hf.out, Hf.out]; rfl, rfl⟩
        · have Hf := Lib.hid (feeB_2 (b := b) (n := n) (up := up) (p := p) (by omega))
          go_enter Try.func100, Try.ntmps100
          go_wp2_with (((first | (go_at_call 47; refine (amtOk_spec _ _).mono ?_) | (go_at_call 93; refine (l01Div_spec _ _ _ _ (by omega) (by omega) (by omega)).mono ?_) | (go_at_call 66; refine (addAmt_spec _ _ _).mono ?_)); rintro e w1 ⟨rfl, rfl⟩))
          go_ret2
          exact ⟨by rw [fee_f Hf.out, Hf.out]; rfl, rfl⟩
    · have Hf := Lib.hid (feeB_1 (b := b) (up := up) (dv_f1 (p := p) (Bool.eq_false_iff.2 h2)))
      go_enter Try.func100, Try.ntmps100
      go_wp2_with (((first | (go_at_call 47; refine (amtOk_spec _ _).mono ?_) | (go_at_call 93; refine (l01Div_spec _ _ _ _ (by omega) (by omega) (by omega)).mono ?_) | (go_at_call 66; refine (addAmt_spec _ _ _).mono ?_)); rintro e w1 ⟨rfl, rfl⟩))
      go_ret2
      exact ⟨by rw [fee_f Hf.out, Hf.out]; rfl, rfl⟩
  · have Hf := Lib.hid (feeB_4 (n := n) (p := p) (up := up) (Bool.eq_false_iff.2 h1))
    go_enter Try.func100, Try.ntmps100
    go_wp2_with (((first | (go_at_call 47; refine (amtOk_spec _ _).mono ?_) | (go_at_call 93; refine (l01Div_spec _ _ _ _ (by omega) (by omega) (by omega)).mono ?_) | (go_at_call 66; refine (addAmt_spec _ _ _).mono ?_)); rintro e w1 ⟨rfl, rfl⟩))
    go_ret2
    exact ⟨by rw [fee_f Hf.out, Hf.out]; rfl, rfl⟩

set_option maxHeartbeats 800000 in
theorem feeUp1_impl (b p n : Int) (w : World) : Calls Try.prog 28 #[.int .i64 b, .int .i64 p, .int .i64 n] w fun e w' =>
    e = .returned (.tuple #[.int .i64 (feeV b p n true), .bool (feeB b p n true)]) ∧ Below w.heap.size w w' := by
  go_enter Try.func28, Try.ntmps28
  go_wp2_with (((go_at_call 67; refine (fee_impl _ _ _ _ _).mono ?_); (rintro e w1 ⟨rfl, hb⟩; (try (replace H0 := below_upd H0 hb (by (repeat (first | (with_reducible assumption) | (with_reducible exact Below.refl _ _) | (with_reducible refine Below.setCell ?_ (by first | (simp; done) | (simp [*]; done)) _) | (with_reducible refine below_alloc ?_ _) | (with_reducible refine Below.drew ?_) | (with_reducible refine below_drewN ?_)))); clear hc0 hf0 hs0 hz0; obtain ⟨hc0, hf0, hs0, hz0⟩ := brules H0)); (try (replace H1 := below_upd H1 hb (by (repeat (first | (with_reducible assumption) | (with_reducible exact Below.refl _ _) | (with_reducible refine Below.setCell ?_ (by first | (simp; done) | (simp [*]; done)) _) | (with_reducible refine below_alloc ?_ _) | (with_reducible refine Below.drew ?_) | (with_reducible refine below_drewN ?_)))); clear hc1 hf1 hs1 hz1; obtain ⟨hc1, hf1, hs1, hz1⟩ := brules H1)); (try (replace H2 := below_upd H2 hb (by (repeat (first | (with_reducible assumption) | (with_reducible exact Below.refl _ _) | (with_reducible refine Below.setCell ?_ (by first | (simp; done) | (simp [*]; done)) _) | (with_reducible refine below_alloc ?_ _) | (with_reducible refine Below.drew ?_) | (with_reducible refine below_drewN ?_)))); clear hc2 hf2 hs2 hz2; obtain ⟨hc2, hf2, hs2, hz2⟩ := brules H2)); (try replace S0 := S0.keep (below_via hb (by (repeat (first | (with_reducible assumption) | (with_reducible exact Below.refl _ _) | (with_reducible refine Below.setCell ?_ (by first | (simp; done) | (simp [*]; done)) _) | (with_reducible refine below_alloc ?_ _) | (with_reducible refine Below.drew ?_) | (with_reducible refine below_drewN ?_)))))); (try replace S1 := S1.keep (below_via hb (by (repeat (first | (with_reducible assumption) | (with_reducible exact Below.refl _ _) | (with_reducible refine Below.setCell ?_ (by first | (simp; done) | (simp [*]; done)) _) | (with_reducible refine below_alloc ?_ _) | (with_reducible refine Below.drew ?_) | (with_reducible refine below_drewN ?_)))))); (try replace S2 := S2.keep (below_via hb (by (repeat (first | (with_reducible assumption) | (with_reducible exact Below.refl _ _) | (with_reducible refine Below.setCell ?_ (by first | (simp; done) | (simp [*]; done)) _) | (with_reducible refine below_alloc ?_ _) | (with_reducible refine Below.drew ?_) | (with_reducible refine below_drewN ?_)))))); (try replace S3 := S3.keep (below_via hb (by (repeat (first | (with_reducible assumption) | (with_reducible exact Below.refl _ _) | (with_reducible refine Below.setCell ?_ (by first | (simp; done) | (simp [*]; done)) _) | (with_reducible refine below_alloc ?_ _) | (with_reducible refine Below.drew ?_) | (with_reducible refine below_drewN ?_)))))); (first | ((fail_if_success (have ht := H0)); have H0 := hb; obtain ⟨hc0, hf0, hs0, hz0⟩ := brules H0) | ((fail_if_success (have ht := H1)); have H1 := hb; obtain ⟨hc1, hf1, hs1, hz1⟩ := brules H1) | ((fail_if_success (have ht := H2)); have H2 := hb; obtain ⟨hc2, hf2, hs2, hz2⟩ := brules H2) | skip))))
  go_ret2
  exact ⟨rfl, by (repeat (first | (with_reducible exact Below.refl _ _) | (with_reducible assumption) | (with_reducible refine Below.setCell ?_ ?side _; case side => first | (with_reducible exact Nat.le_refl _) | (simp; done) | (simp only [World.size_alloc, World.size_setCell, World.size_drew, World.heap_drewN] at *; omega)) | (with_reducible refine below_alloc ?_ _) | (with_reducible refine Below.drew ?_) | (with_reducible refine below_drewN ?_) | (with_reducible refine below_via (by assumption) ?_)))⟩

set_option maxHeartbeats 800000 in
theorem feeUp1_spec (b p n : Int) (w : World) : Calls Try.prog 65 #[.int .i64 b, .int .i64 p, .int .i64 n] w fun e w' =>
    e = .returned (.tuple #[.int .i64 (feeV b p n true), .bool (feeB b p n true)]) ∧ w = w' := by
  go_enter Try.func65, Try.ntmps65
  go_wp2_with (((go_at_call 100; refine (fee_spec _ _ _ _ _).mono ?_); rintro e w1 ⟨rfl, rfl⟩))
  go_ret2
  exact ⟨rfl, rfl⟩

end Go.Proofs.Ytegnlijgjcfmlaa
