/- Products divided. -/
import Derived.Test.YtegnlijgjcfmlaaDoorLDiv
import Derived.Test.YtegnlijgjcfmlaaDoorDiv64
namespace Go.Proofs.YtegnlijgjcfmlaaDoor
open Go.RowKit
set_option linter.unusedVariables false
set_option linter.unusedSimpArgs false

def dvIn (a b c : Int) : Bool := amtOk a && amtOk b && inB c 1 1125899906842624
def dv (a b c : Int) : Bool := dvIn a b c && dk a b c
def dvq (a b c : Int) : Int := if dv a b c = true then a * b / c else 0
def dvr (a b c : Int) : Int := if dv a b c = true then a * b % c else 0
theorem dvIn_t {a b c : Int} (h : dvIn a b c = true) : (0 ≤ a ∧ a ≤ 1125899906842624) ∧ (0 ≤ b ∧ b ≤ 1125899906842624) ∧ 1 ≤ c ∧ c ≤ 1125899906842624 := by simpa [dvIn, amtOk, inB, and_assoc] using h
theorem dvIn_of {a b c : Int} (h : (0 ≤ a ∧ a ≤ 1125899906842624) ∧ (0 ≤ b ∧ b ≤ 1125899906842624) ∧ 1 ≤ c ∧ c ≤ 1125899906842624) : dvIn a b c = true := by simpa [dvIn, amtOk, inB, and_assoc] using h
theorem dv_in {a b c : Int} (h : dvIn a b c = true) : dv a b c = dk a b c ∧ dvq a b c = dq a b c ∧ dvr a b c = dr a b c := by simp [dv, dvq, dvr, dq, dr, h]
theorem dv_out {a b c : Int} (h : dvIn a b c = false) : dv a b c = false ∧ dvq a b c = 0 ∧ dvr a b c = 0 := by simp [dv, dvq, dvr, h]
theorem dvq_bd (a b c : Int) : 0 ≤ dvq a b c ∧ dvq a b c ≤ 1125899906842624 := by
  cases h : dvIn a b c with
  | false => rw [(dv_out h).2.1]; omega
  | true => rw [(dv_in h).2.1]; have hb := dvIn_t h; exact dq_bd hb.1.1 hb.2.1.1 hb.2.2.1
theorem dvr_bd (a b c : Int) : 0 ≤ dvr a b c ∧ dvr a b c ≤ 1125899906842624 := by
  cases h : dvIn a b c with
  | false => rw [(dv_out h).2.2]; omega
  | true => rw [(dv_in h).2.2]; have hb := dvIn_t h; have := dr_bd (a := a) (b := b) hb.2.2.1; omega

theorem mul64_lib (a b : Nat) (ha : a ≤ 1125899906842624) (hb : b ≤ 1125899906842624) (w : World) : Calls Tryd.prog 146 #[.int .u64 a, .int .u64 b] w fun e w' =>
    e = .returned (.tuple #[.int .u64 ((a * b / 18446744073709551616 : Nat) : Int), .int .u64 ((a * b % 18446744073709551616 : Nat) : Int)]) ∧ w = w' :=
  (Tryd.bits_Mul64 a b (by omega) (by omega) w).mono fun e w' ⟨he, hw⟩ => ⟨he, hw.symm⟩
theorem dk_high {a b c : Nat} (hc : 1 ≤ c) (h : c ≤ a * b / 18446744073709551616) : dk a b c = false := by
  have h1 : 18446744073709551616 ≤ a * b / c := by
    rw [Nat.le_div_iff_mul_le hc]
    have := Nat.div_mul_le_self (a * b) 18446744073709551616
    have h2 := Nat.mul_le_mul_right 18446744073709551616 h
    exact Nat.le_trans (by rw [Nat.mul_comm]; exact h2) this
  unfold dk
  rw [decide_eq_false_iff_not]
  intro h3
  have : ((a * b / c : Nat) : Int) ≤ 1125899906842624 := by rw [Int.natCast_ediv, Int.natCast_mul]; exact h3
  omega
theorem dk_nat (a b c : Nat) : dk a b c = decide (a * b / c ≤ 1125899906842624) := by
  unfold dk
  rw [decide_eq_decide, ← Int.natCast_mul, ← Int.natCast_ediv]
  omega

set_option maxHeartbeats 1600000 in
theorem divided_impl (a b c : Int) (w : World) : Calls Tryd.prog 130 #[.int .i64 a, .int .i64 b, .int .i64 c] w fun e w' =>
    e = .returned (.tuple #[.int .i64 (dvq a b c), .int .i64 (dvr a b c), .bool (dv a b c)]) ∧ Below w.heap.size w w' := by
  by_cases hin : dvIn a b c = true
  · obtain ⟨e1, e2, e3⟩ := dv_in hin
    rw [e1, e2, e3]
    clear e1 e2 e3
    obtain ⟨ha, hb, hc⟩ := dvIn_t hin
    have t1 : amtOk a = true := decide_eq_true ha
    have t2 : amtOk b = true := decide_eq_true hb
    have t3 : inB c 1 1125899906842624 = true := decide_eq_true hc
    clear hin
    obtain ⟨a, rfl⟩ := Int.eq_ofNat_of_zero_le ha.1
    obtain ⟨b, rfl⟩ := Int.eq_ofNat_of_zero_le hb.1
    obtain ⟨c, rfl⟩ := Int.eq_ofNat_of_zero_le (show 0 ≤ c by omega)
    obtain ⟨ha0, ha⟩ := ha
    obtain ⟨hb0, hb⟩ := hb
    obtain ⟨hc0, hc⟩ := hc
    obtain ⟨hi, hhi⟩ : ∃ n : Nat, n = a * b / 18446744073709551616 := ⟨_, rfl⟩
    obtain ⟨lo, hlo⟩ : ∃ n : Nat, n = a * b % 18446744073709551616 := ⟨_, rfl⟩
    have hlo2 : lo < 18446744073709551616 := by rw [hlo]; exact Nat.mod_lt _ (by omega)
    have hm := mul64_lib a b (by omega) (by omega) w
    rw [← hhi, ← hlo] at hm
    have Hm := Lib.hid hm
    have Hab : Hid (hi * 18446744073709551616 + lo = a * b) := by unfold Hid; rw [hhi, hlo]; have := Nat.div_add_mod (a * b) 18446744073709551616; omega
    clear hm
    by_cases hge : c ≤ hi
    · have Hk := Lib.hid (dk_high (a := a) (b := b) (show 1 ≤ c by omega) (by rw [← hhi]; exact hge))
      clear hhi hlo
      go_enter Tryd.func130, Tryd.ntmps130
      go_wp2_with (first | (go_at_call 146; refine Hm.out.mono ?_; rintro e w1 ⟨rfl, rfl⟩) | ((first | (go_at_call 61; refine (amtOk_impl _ _).mono ?_) | (go_at_call 39; refine (in_impl _ _ _ _).mono ?_) | (go_at_call 147; refine (div64_lib _ _ _ _ (by omega) (by omega) (by omega)).mono ?_)); (first | (rintro e w1 ⟨rfl, rfl⟩) | (rintro e w1 ⟨rfl, hb⟩; (try (replace H0 := below_upd H0 hb (by (repeat (first | (with_reducible assumption) | (with_reducible exact Below.refl _ _) | (with_reducible refine Below.setCell ?_ (by first | (simp; done) | (simp [*]; done)) _) | (with_reducible refine below_alloc ?_ _) | (with_reducible refine Below.drew ?_) | (with_reducible refine below_drewN ?_)))); clear hc0 hf0 hs0 hz0; obtain ⟨hc0, hf0, hs0, hz0⟩ := brules H0)); (try (replace H1 := below_upd H1 hb (by (repeat (first | (with_reducible assumption) | (with_reducible exact Below.refl _ _) | (with_reducible refine Below.setCell ?_ (by first | (simp; done) | (simp [*]; done)) _) | (with_reducible refine below_alloc ?_ _) | (with_reducible refine Below.drew ?_) | (with_reducible refine below_drewN ?_)))); clear hc1 hf1 hs1 hz1; obtain ⟨hc1, hf1, hs1, hz1⟩ := brules H1)); (try (replace H2 := below_upd H2 hb (by (repeat (first | (with_reducible assumption) | (with_reducible exact Below.refl _ _) | (with_reducible refine Below.setCell ?_ (by first | (simp; done) | (simp [*]; done)) _) | (with_reducible refine below_alloc ?_ _) | (with_reducible refine Below.drew ?_) | (with_reducible refine below_drewN ?_)))); clear hc2 hf2 hs2 hz2; obtain ⟨hc2, hf2, hs2, hz2⟩ := brules H2)); (try replace S0 := S0.keep (below_via hb (by (repeat (first | (with_reducible assumption) | (with_reducible exact Below.refl _ _) | (with_reducible refine Below.setCell ?_ (by first | (simp; done) | (simp [*]; done)) _) | (with_reducible refine below_alloc ?_ _) | (with_reducible refine Below.drew ?_) | (with_reducible refine below_drewN ?_)))))); (try replace S1 := S1.keep (below_via hb (by (repeat (first | (with_reducible assumption) | (with_reducible exact Below.refl _ _) | (with_reducible refine Below.setCell ?_ (by first | (simp; done) | (simp [*]; done)) _) | (with_reducible refine below_alloc ?_ _) | (with_reducible refine Below.drew ?_) | (with_reducible refine below_drewN ?_)))))); (try replace S2 := S2.keep (below_via hb (by (repeat (first | (with_reducible assumption) | (with_reducible exact Below.refl _ _) | (with_reducible refine Below.setCell ?_ (by first | (simp; done) | (simp [*]; done)) _) | (with_reducible refine below_alloc ?_ _) | (with_reducible refine Below.drew ?_) | (with_reducible refine below_drewN ?_)))))); (try replace S3 := S3.keep (below_via hb (by (repeat (first | (with_reducible assumption) | (with_reducible exact Below.refl _ _) | (with_reducible refine Below.setCell ?_ (by first | (simp; done) | (simp [*]; done)) _) | (with_reducible refine below_alloc ?_ _) | (with_reducible refine Below.drew ?_) | (with_reducible refine below_drewN ?_)))))); (first | ((fail_if_success (have ht := H0)); have H0 := hb; obtain ⟨hc0, hf0, hs0, hz0⟩ := brules H0) | ((fail_if_success (have ht := H1)); have H1 := hb; obtain ⟨hc1, hf1, hs1, hz1⟩ := brules H1) | ((fail_if_success (have ht := H2)); have H2 := hb; obtain ⟨hc2, hf2, hs2, hz2⟩ := brules H2) | skip)))))
      go_ret3
      exact ⟨by unfold dq dr; rw [Hk.out]; rfl, Below.refl _ _⟩
    · obtain ⟨q, hq⟩ : ∃ n : Nat, n = a * b / c := ⟨_, rfl⟩
      obtain ⟨r, hr⟩ : ∃ n : Nat, n = a * b % c := ⟨_, rfl⟩
      have hr2 : r < c := by rw [hr]; exact Nat.mod_lt _ (by omega)
      have hd := fun W => div64_lib hi lo c W (by omega) (by omega) hlo2
      rw [Hab.out, ← hq, ← hr] at hd
      have Hd := Lib.hid hd
      have Hk : Hid (dk a b c = decide (q ≤ 1125899906842624)) := by unfold Hid; rw [dk_nat, ← hq]
      have hq64 : q < 18446744073709551616 := by
        rw [hq, Nat.div_lt_iff_lt_mul (by omega)]
        rw [hhi] at hge
        have := Nat.div_add_mod (a * b) 18446744073709551616
        have := Nat.mod_lt (a * b) (show 0 < 18446744073709551616 by omega)
        have h2 : (a * b / 18446744073709551616 + 1) * 18446744073709551616 ≤ c * 18446744073709551616 := Nat.mul_le_mul_right _ (by omega)
        rw [Nat.mul_comm 18446744073709551616 c]
        omega
      have Hq := Lib.hid hq
      have Hr := Lib.hid hr
      clear hhi hlo hd hq hr
      have k1 : ¬ ((c : Int) ≤ hi) := by omega
      have k3 : (r : Int) < c := by omega
      by_cases hbig : 1125899906842624 < q
      · have Hk2 : Hid (dk a b c = false) := by unfold Hid; rw [Hk.out, decide_eq_false_iff_not]; omega
        have k5 : (1125899906842624 : Int) < q := by omega
        clear hge hr2 hq64 hbig hlo2
        go_enter Tryd.func130, Tryd.ntmps130
        go_wp2_with (first | (go_at_call 146; refine Hm.out.mono ?_; rintro e w1 ⟨rfl, rfl⟩) | (go_at_call 147; refine (Hd.out _).mono ?_; rintro e w1 ⟨rfl, hb1⟩) | ((first | (go_at_call 61; refine (amtOk_impl _ _).mono ?_) | (go_at_call 39; refine (in_impl _ _ _ _).mono ?_) | (go_at_call 147; refine (div64_lib _ _ _ _ (by omega) (by omega) (by omega)).mono ?_)); (first | (rintro e w1 ⟨rfl, rfl⟩) | (rintro e w1 ⟨rfl, hb⟩; (try (replace H0 := below_upd H0 hb (by (repeat (first | (with_reducible assumption) | (with_reducible exact Below.refl _ _) | (with_reducible refine Below.setCell ?_ (by first | (simp; done) | (simp [*]; done)) _) | (with_reducible refine below_alloc ?_ _) | (with_reducible refine Below.drew ?_) | (with_reducible refine below_drewN ?_)))); clear hc0 hf0 hs0 hz0; obtain ⟨hc0, hf0, hs0, hz0⟩ := brules H0)); (try (replace H1 := below_upd H1 hb (by (repeat (first | (with_reducible assumption) | (with_reducible exact Below.refl _ _) | (with_reducible refine Below.setCell ?_ (by first | (simp; done) | (simp [*]; done)) _) | (with_reducible refine below_alloc ?_ _) | (with_reducible refine Below.drew ?_) | (with_reducible refine below_drewN ?_)))); clear hc1 hf1 hs1 hz1; obtain ⟨hc1, hf1, hs1, hz1⟩ := brules H1)); (try (replace H2 := below_upd H2 hb (by (repeat (first | (with_reducible assumption) | (with_reducible exact Below.refl _ _) | (with_reducible refine Below.setCell ?_ (by first | (simp; done) | (simp [*]; done)) _) | (with_reducible refine below_alloc ?_ _) | (with_reducible refine Below.drew ?_) | (with_reducible refine below_drewN ?_)))); clear hc2 hf2 hs2 hz2; obtain ⟨hc2, hf2, hs2, hz2⟩ := brules H2)); (try replace S0 := S0.keep (below_via hb (by (repeat (first | (with_reducible assumption) | (with_reducible exact Below.refl _ _) | (with_reducible refine Below.setCell ?_ (by first | (simp; done) | (simp [*]; done)) _) | (with_reducible refine below_alloc ?_ _) | (with_reducible refine Below.drew ?_) | (with_reducible refine below_drewN ?_)))))); (try replace S1 := S1.keep (below_via hb (by (repeat (first | (with_reducible assumption) | (with_reducible exact Below.refl _ _) | (with_reducible refine Below.setCell ?_ (by first | (simp; done) | (simp [*]; done)) _) | (with_reducible refine below_alloc ?_ _) | (with_reducible refine Below.drew ?_) | (with_reducible refine below_drewN ?_)))))); (try replace S2 := S2.keep (below_via hb (by (repeat (first | (with_reducible assumption) | (with_reducible exact Below.refl _ _) | (with_reducible refine Below.setCell ?_ (by first | (simp; done) | (simp [*]; done)) _) | (with_reducible refine below_alloc ?_ _) | (with_reducible refine Below.drew ?_) | (with_reducible refine below_drewN ?_)))))); (try replace S3 := S3.keep (below_via hb (by (repeat (first | (with_reducible assumption) | (with_reducible exact Below.refl _ _) | (with_reducible refine Below.setCell ?_ (by first | (simp; done) | (simp [*]; done)) _) | (with_reducible refine below_alloc ?_ _) | (with_reducible refine Below.drew ?_) | (with_reducible refine below_drewN ?_)))))); (first | ((fail_if_success (have ht := H0)); have H0 := hb; obtain ⟨hc0, hf0, hs0, hz0⟩ := brules H0) | ((fail_if_success (have ht := H1)); have H1 := hb; obtain ⟨hc1, hf1, hs1, hz1⟩ := brules H1) | ((fail_if_success (have ht := H2)); have H2 := hb; obtain ⟨hc2, hf2, hs2, hz2⟩ := brules H2) | skip)))))
        go_ret3
        exact ⟨by unfold dq dr; rw [Hk2.out]; rfl, hb1⟩
      · have Hk2 : Hid (dk a b c = true) := by unfold Hid; rw [Hk.out, decide_eq_true_iff]; omega
        have Hq2 : Hid (dq a b c = q ∧ dr a b c = r) := by
          unfold Hid dq dr
          rw [if_pos Hk2.out, if_pos Hk2.out, Hq.out, Hr.out, Int.natCast_ediv, Int.natCast_emod, Int.natCast_mul]
          exact ⟨rfl, rfl⟩
        have k5 : ¬ ((1125899906842624 : Int) < q) := by omega
        clear hge hr2 hq64 hbig hlo2
        go_enter Tryd.func130, Tryd.ntmps130
        go_wp2_with (first | (go_at_call 146; refine Hm.out.mono ?_; rintro e w1 ⟨rfl, rfl⟩) | (go_at_call 147; refine (Hd.out _).mono ?_; rintro e w1 ⟨rfl, hb1⟩) | ((first | (go_at_call 61; refine (amtOk_impl _ _).mono ?_) | (go_at_call 39; refine (in_impl _ _ _ _).mono ?_) | (go_at_call 147; refine (div64_lib _ _ _ _ (by omega) (by omega) (by omega)).mono ?_)); (first | (rintro e w1 ⟨rfl, rfl⟩) | (rintro e w1 ⟨rfl, hb⟩; (try (replace H0 := below_upd H0 hb (by (repeat (first | (with_reducible assumption) | (with_reducible exact Below.refl _ _) | (with_reducible refine Below.setCell ?_ (by first | (simp; done) | (simp [*]; done)) _) | (with_reducible refine below_alloc ?_ _) | (with_reducible refine Below.drew ?_) | (with_reducible refine below_drewN ?_)))); clear hc0 hf0 hs0 hz0; obtain ⟨hc0, hf0, hs0, hz0⟩ := brules H0)); (try (replace H1 := below_upd H1 hb (by (repeat (first | (with_reducible assumption) | (with_reducible exact Below.refl _ _) | (with_reducible refine Below.setCell ?_ (by first | (simp; done) | (simp [*]; done)) _) | (with_reducible refine below_alloc ?_ _) | (with_reducible refine Below.drew ?_) | (with_reducible refine below_drewN ?_)))); clear hc1 hf1 hs1 hz1; obtain ⟨hc1, hf1, hs1, hz1⟩ := brules H1)); (try (replace H2 := below_upd H2 hb (by (repeat (first | (with_reducible assumption) | (with_reducible exact Below.refl _ _) | (with_reducible refine Below.setCell ?_ (by first | (simp; done) | (simp [*]; done)) _) | (with_reducible refine below_alloc ?_ _) | (with_reducible refine Below.drew ?_) | (with_reducible refine below_drewN ?_)))); clear hc2 hf2 hs2 hz2; obtain ⟨hc2, hf2, hs2, hz2⟩ := brules H2)); (try replace S0 := S0.keep (below_via hb (by (repeat (first | (with_reducible assumption) | (with_reducible exact Below.refl _ _) | (with_reducible refine Below.setCell ?_ (by first | (simp; done) | (simp [*]; done)) _) | (with_reducible refine below_alloc ?_ _) | (with_reducible refine Below.drew ?_) | (with_reducible refine below_drewN ?_)))))); (try replace S1 := S1.keep (below_via hb (by (repeat (first | (with_reducible assumption) | (with_reducible exact Below.refl _ _) | (with_reducible refine Below.setCell ?_ (by first | (simp; done) | (simp [*]; done)) _) | (with_reducible refine below_alloc ?_ _) | (with_reducible refine Below.drew ?_) | (with_reducible refine below_drewN ?_)))))); (try replace S2 := S2.keep (below_via hb (by (repeat (first | (with_reducible assumption) | (with_reducible exact Below.refl _ _) | (with_reducible refine Below.setCell ?_ (by first | (simp; done) | (simp [*]; done)) _) | (with_reducible refine below_alloc ?_ _) | (with_reducible refine Below.drew ?_) | (with_reducible refine below_drewN ?_)))))); (try replace S3 := S3.keep (below_via hb (by (repeat (first | (with_reducible assumption) | (with_reducible exact Below.refl _ _) | (with_reducible refine Below.setCell ?_ (by first | (simp; done) | (simp [*]; done)) _) | (with_reducible refine below_alloc ?_ _) | (with_reducible refine Below.drew ?_) | (with_reducible refine below_drewN ?_)))))); (first | ((fail_if_success (have ht := H0)); have H0 := hb; obtain ⟨hc0, hf0, hs0, hz0⟩ := brules H0) | ((fail_if_success (have ht := H1)); have H1 := hb; obtain ⟨hc1, hf1, hs1, hz1⟩ := brules H1) | ((fail_if_success (have ht := H2)); have H2 := hb; obtain ⟨hc2, hf2, hs2, hz2⟩ := brules H2) | skip)))))
        go_ret3
        exact ⟨by rw [Hk2.out, Hq2.out.1, Hq2.out.2]; rfl, hb1⟩
  · obtain ⟨e1, e2, e3⟩ := dv_out (Bool.eq_false_iff.2 hin)
    rw [e1, e2, e3]
    clear e1 e2 e3
    by_cases h1 : amtOk a = true
    · by_cases h2 : amtOk b = true
      · have h3 : inB c 1 1125899906842624 = false := by simpa [dvIn, h1, h2] using hin
        clear hin
        go_enter Tryd.func130, Tryd.ntmps130
        go_wp2_with (((first | (go_at_call 61; refine (amtOk_impl _ _).mono ?_) | (go_at_call 39; refine (in_impl _ _ _ _).mono ?_) | (go_at_call 147; refine (div64_lib _ _ _ _ (by omega) (by omega) (by omega)).mono ?_)); (first | (rintro e w1 ⟨rfl, rfl⟩) | (rintro e w1 ⟨rfl, hb⟩; (try (replace H0 := below_upd H0 hb (by (repeat (first | (with_reducible assumption) | (with_reducible exact Below.refl _ _) | (with_reducible refine Below.setCell ?_ (by first | (simp; done) | (simp [*]; done)) _) | (with_reducible refine below_alloc ?_ _) | (with_reducible refine Below.drew ?_) | (with_reducible refine below_drewN ?_)))); clear hc0 hf0 hs0 hz0; obtain ⟨hc0, hf0, hs0, hz0⟩ := brules H0)); (try (replace H1 := below_upd H1 hb (by (repeat (first | (with_reducible assumption) | (with_reducible exact Below.refl _ _) | (with_reducible refine Below.setCell ?_ (by first | (simp; done) | (simp [*]; done)) _) | (with_reducible refine below_alloc ?_ _) | (with_reducible refine Below.drew ?_) | (with_reducible refine below_drewN ?_)))); clear hc1 hf1 hs1 hz1; obtain ⟨hc1, hf1, hs1, hz1⟩ := brules H1)); (try (replace H2 := below_upd H2 hb (by (repeat (first | (with_reducible assumption) | (with_reducible exact Below.refl _ _) | (with_reducible refine Below.setCell ?_ (by first | (simp; done) | (simp [*]; done)) _) | (with_reducible refine below_alloc ?_ _) | (with_reducible refine Below.drew ?_) | (with_reducible refine below_drewN ?_)))); clear hc2 hf2 hs2 hz2; obtain ⟨hc2, hf2, hs2, hz2⟩ := brules H2)); (try replace S0 := S0.keep (below_via hb (by (repeat (first | (with_reducible assumption) | (with_reducible exact Below.refl _ _) | (with_reducible refine Below.setCell ?_ (by first | (simp; done) | (simp [*]; done)) _) | (with_reducible refine below_alloc ?_ _) | (with_reducible refine Below.drew ?_) | (with_reducible refine below_drewN ?_)))))); (try replace S1 := S1.keep (below_via hb (by (repeat (first | (with_reducible assumption) | (with_reducible exact Below.refl _ _) | (with_reducible refine Below.setCell ?_ (by first | (simp; done) | (simp [*]; done)) _) | (with_reducible refine below_alloc ?_ _) | (with_reducible refine Below.drew ?_) | (with_reducible refine below_drewN ?_)))))); (try replace S2 := S2.keep (below_via hb (by (repeat (first | (with_reducible assumption) | (with_reducible exact Below.refl _ _) | (with_reducible refine Below.setCell ?_ (by first | (simp; done) | (simp [*]; done)) _) | (with_reducible refine below_alloc ?_ _) | (with_reducible refine Below.drew ?_) | (with_reducible refine below_drewN ?_)))))); (try replace S3 := S3.keep (below_via hb (by (repeat (first | (with_reducible assumption) | (with_reducible exact Below.refl _ _) | (with_reducible refine Below.setCell ?_ (by first | (simp; done) | (simp [*]; done)) _) | (with_reducible refine below_alloc ?_ _) | (with_reducible refine Below.drew ?_) | (with_reducible refine below_drewN ?_)))))); (first | ((fail_if_success (have ht := H0)); have H0 := hb; obtain ⟨hc0, hf0, hs0, hz0⟩ := brules H0) | ((fail_if_success (have ht := H1)); have H1 := hb; obtain ⟨hc1, hf1, hs1, hz1⟩ := brules H1) | ((fail_if_success (have ht := H2)); have H2 := hb; obtain ⟨hc2, hf2, hs2, hz2⟩ := brules H2) | skip)))))
        go_ret3
        exact ⟨rfl, Below.refl _ _⟩
      · clear hin
        go_enter Tryd.func130, Tryd.ntmps130
        go_wp2_with (((first | (go_at_call 61; refine (amtOk_impl _ _).mono ?_) | (go_at_call 39; refine (in_impl _ _ _ _).mono ?_) | (go_at_call 147; refine (div64_lib _ _ _ _ (by omega) (by omega) (by omega)).mono ?_)); (first | (rintro e w1 ⟨rfl, rfl⟩) | (rintro e w1 ⟨rfl, hb⟩; (try (replace H0 := below_upd H0 hb (by (repeat (first | (with_reducible assumption) | (with_reducible exact Below.refl _ _) | (with_reducible refine Below.setCell ?_ (by first | (simp; done) | (simp [*]; done)) _) | (with_reducible refine below_alloc ?_ _) | (with_reducible refine Below.drew ?_) | (with_reducible refine below_drewN ?_)))); clear hc0 hf0 hs0 hz0; obtain ⟨hc0, hf0, hs0, hz0⟩ := brules H0)); (try (replace H1 := below_upd H1 hb (by (repeat (first | (with_reducible assumption) | (with_reducible exact Below.refl _ _) | (with_reducible refine Below.setCell ?_ (by first | (simp; done) | (simp [*]; done)) _) | (with_reducible refine below_alloc ?_ _) | (with_reducible refine Below.drew ?_) | (with_reducible refine below_drewN ?_)))); clear hc1 hf1 hs1 hz1; obtain ⟨hc1, hf1, hs1, hz1⟩ := brules H1)); (try (replace H2 := below_upd H2 hb (by (repeat (first | (with_reducible assumption) | (with_reducible exact Below.refl _ _) | (with_reducible refine Below.setCell ?_ (by first | (simp; done) | (simp [*]; done)) _) | (with_reducible refine below_alloc ?_ _) | (with_reducible refine Below.drew ?_) | (with_reducible refine below_drewN ?_)))); clear hc2 hf2 hs2 hz2; obtain ⟨hc2, hf2, hs2, hz2⟩ := brules H2)); (try replace S0 := S0.keep (below_via hb (by (repeat (first | (with_reducible assumption) | (with_reducible exact Below.refl _ _) | (with_reducible refine Below.setCell ?_ (by first | (simp; done) | (simp [*]; done)) _) | (with_reducible refine below_alloc ?_ _) | (with_reducible refine Below.drew ?_) | (with_reducible refine below_drewN ?_)))))); (try replace S1 := S1.keep (below_via hb (by (repeat (first | (with_reducible assumption) | (with_reducible exact Below.refl _ _) | (with_reducible refine Below.setCell ?_ (by first | (simp; done) | (simp [*]; done)) _) | (with_reducible refine below_alloc ?_ _) | (with_reducible refine Below.drew ?_) | (with_reducible refine below_drewN ?_)))))); (try replace S2 := S2.keep (below_via hb (by (repeat (first | (with_reducible assumption) | (with_reducible exact Below.refl _ _) | (with_reducible refine Below.setCell ?_ (by first | (simp; done) | (simp [*]; done)) _) | (with_reducible refine below_alloc ?_ _) | (with_reducible refine Below.drew ?_) | (with_reducible refine below_drewN ?_)))))); (try replace S3 := S3.keep (below_via hb (by (repeat (first | (with_reducible assumption) | (with_reducible exact Below.refl _ _) | (with_reducible refine Below.setCell ?_ (by first | (simp; done) | (simp [*]; done)) _) | (with_reducible refine below_alloc ?_ _) | (with_reducible refine Below.drew ?_) | (with_reducible refine below_drewN ?_)))))); (first | ((fail_if_success (have ht := H0)); have H0 := hb; obtain ⟨hc0, hf0, hs0, hz0⟩ := brules H0) | ((fail_if_success (have ht := H1)); have H1 := hb; obtain ⟨hc1, hf1, hs1, hz1⟩ := brules H1) | ((fail_if_success (have ht := H2)); have H2 := hb; obtain ⟨hc2, hf2, hs2, hz2⟩ := brules H2) | skip)))))
        go_ret3
        exact ⟨rfl, Below.refl _ _⟩
    · clear hin
      go_enter Tryd.func130, Tryd.ntmps130
      go_wp2_with (((first | (go_at_call 61; refine (amtOk_impl _ _).mono ?_) | (go_at_call 39; refine (in_impl _ _ _ _).mono ?_) | (go_at_call 147; refine (div64_lib _ _ _ _ (by omega) (by omega) (by omega)).mono ?_)); (first | (rintro e w1 ⟨rfl, rfl⟩) | (rintro e w1 ⟨rfl, hb⟩; (try (replace H0 := below_upd H0 hb (by (repeat (first | (with_reducible assumption) | (with_reducible exact Below.refl _ _) | (with_reducible refine Below.setCell ?_ (by first | (simp; done) | (simp [*]; done)) _) | (with_reducible refine below_alloc ?_ _) | (with_reducible refine Below.drew ?_) | (with_reducible refine below_drewN ?_)))); clear hc0 hf0 hs0 hz0; obtain ⟨hc0, hf0, hs0, hz0⟩ := brules H0)); (try (replace H1 := below_upd H1 hb (by (repeat (first | (with_reducible assumption) | (with_reducible exact Below.refl _ _) | (with_reducible refine Below.setCell ?_ (by first | (simp; done) | (simp [*]; done)) _) | (with_reducible refine below_alloc ?_ _) | (with_reducible refine Below.drew ?_) | (with_reducible refine below_drewN ?_)))); clear hc1 hf1 hs1 hz1; obtain ⟨hc1, hf1, hs1, hz1⟩ := brules H1)); (try (replace H2 := below_upd H2 hb (by (repeat (first | (with_reducible assumption) | (with_reducible exact Below.refl _ _) | (with_reducible refine Below.setCell ?_ (by first | (simp; done) | (simp [*]; done)) _) | (with_reducible refine below_alloc ?_ _) | (with_reducible refine Below.drew ?_) | (with_reducible refine below_drewN ?_)))); clear hc2 hf2 hs2 hz2; obtain ⟨hc2, hf2, hs2, hz2⟩ := brules H2)); (try replace S0 := S0.keep (below_via hb (by (repeat (first | (with_reducible assumption) | (with_reducible exact Below.refl _ _) | (with_reducible refine Below.setCell ?_ (by first | (simp; done) | (simp [*]; done)) _) | (with_reducible refine below_alloc ?_ _) | (with_reducible refine Below.drew ?_) | (with_reducible refine below_drewN ?_)))))); (try replace S1 := S1.keep (below_via hb (by (repeat (first | (with_reducible assumption) | (with_reducible exact Below.refl _ _) | (with_reducible refine Below.setCell ?_ (by first | (simp; done) | (simp [*]; done)) _) | (with_reducible refine below_alloc ?_ _) | (with_reducible refine Below.drew ?_) | (with_reducible refine below_drewN ?_)))))); (try replace S2 := S2.keep (below_via hb (by (repeat (first | (with_reducible assumption) | (with_reducible exact Below.refl _ _) | (with_reducible refine Below.setCell ?_ (by first | (simp; done) | (simp [*]; done)) _) | (with_reducible refine below_alloc ?_ _) | (with_reducible refine Below.drew ?_) | (with_reducible refine below_drewN ?_)))))); (try replace S3 := S3.keep (below_via hb (by (repeat (first | (with_reducible assumption) | (with_reducible exact Below.refl _ _) | (with_reducible refine Below.setCell ?_ (by first | (simp; done) | (simp [*]; done)) _) | (with_reducible refine below_alloc ?_ _) | (with_reducible refine Below.drew ?_) | (with_reducible refine below_drewN ?_)))))); (first | ((fail_if_success (have ht := H0)); have H0 := hb; obtain ⟨hc0, hf0, hs0, hz0⟩ := brules H0) | ((fail_if_success (have ht := H1)); have H1 := hb; obtain ⟨hc1, hf1, hs1, hz1⟩ := brules H1) | ((fail_if_success (have ht := H2)); have H2 := hb; obtain ⟨hc2, hf2, hs2, hz2⟩ := brules H2) | skip)))))
      go_ret3
      exact ⟨rfl, Below.refl _ _⟩

end Go.Proofs.YtegnlijgjcfmlaaDoor
