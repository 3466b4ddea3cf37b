/- The reference divides bit by bit. -/
import Derived.Test.YtegnlijgjcfmlaaDoorAmt
import Derived.Laws.BitsAllLaws
namespace Go.Proofs.YtegnlijgjcfmlaaDoor
open Go.RowKit
set_option linter.unusedVariables false
set_option linter.unusedSimpArgs false

def dk (a b c : Int) : Bool := decide (a * b / c ≤ 1125899906842624)
def dq (a b c : Int) : Int := if dk a b c = true then a * b / c else 0
def dr (a b c : Int) : Int := if dk a b c = true then a * b % c else 0
theorem dq_bd {a b c : Int} (ha : 0 ≤ a) (hb : 0 ≤ b) (hc : 1 ≤ c) : 0 ≤ dq a b c ∧ dq a b c ≤ 1125899906842624 := by
  unfold dq
  split
  · rename_i h
    have := of_decide_eq_true h
    exact ⟨Int.ediv_nonneg (Int.mul_nonneg ha hb) (by omega), this⟩
  · omega
theorem dr_bd {a b c : Int} (hc : 1 ≤ c) : 0 ≤ dr a b c ∧ dr a b c < c := by
  unfold dr
  split
  · exact ⟨Int.emod_nonneg _ (by omega), Int.emod_lt_of_pos _ (by omega)⟩
  · omega
/-- a's bits from k on, times b -/
def dx (a b k : Nat) : Nat := a / 2 ^ k * b
theorem dx_top {a b : Nat} (ha : a ≤ 1125899906842624) : dx a b 51 = 0 := by
  unfold dx; rw [Nat.div_eq_of_lt (by omega), Nat.zero_mul]
theorem dx_zero (a b : Nat) : dx a b 0 = a * b := by simp [dx]
theorem dx_step (a b k : Nat) : dx a b k = 2 * dx a b (k + 1) + a / 2 ^ k % 2 * b := by
  unfold dx
  have e : a / 2 ^ (k + 1) = a / 2 ^ k / 2 := by rw [Nat.pow_succ, Nat.div_div_eq_div_mul]
  rw [e]
  generalize a / 2 ^ k = m
  have : m = 2 * (m / 2) + m % 2 := by omega
  calc m * b = (2 * (m / 2) + m % 2) * b := by rw [← this]
    _ = _ := by rw [Nat.add_mul, Nat.mul_assoc]
/-- a greater quotient on the way is a greater one at the end -/
theorem dx_mono (a b : Nat) : ∀ k, dx a b k ≤ a * b
  | 0 => by rw [dx_zero]; exact Nat.le_refl _
  | k + 1 => by have := dx_step a b k; have := dx_mono a b k; omega
theorem div_exit {X q r c : Nat} (h : q * c + r = X) (hr : r < c) : X / c = q ∧ X % c = r := by
  subst h
  rw [Nat.mul_comm, Nat.mul_add_div (by omega), Nat.mul_add_mod, Nat.div_eq_of_lt hr, Nat.mod_eq_of_lt hr]
  exact ⟨by omega, rfl⟩
theorem div_zero {a b c k q r : Nat} (hk : dx a b (k + 1) = (q * c + r)) (h0 : a / 2 ^ k % 2 = 0) : 2 * q * c + 2 * r = dx a b k := by
  rw [dx_step, hk, h0, Nat.mul_add, Nat.mul_assoc]; omega
theorem div_one {a b c k q r : Nat} (hk : dx a b (k + 1) = (q * c + r)) (h0 : a / 2 ^ k % 2 = 1) : (2 * q + b / c) * c + (2 * r + b % c) = dx a b k := by
  have hb : b / c * c + b % c = b := by rw [Nat.mul_comm]; exact Nat.div_add_mod b c
  rw [dx_step, hk, h0, Nat.mul_add, Nat.add_mul, Nat.mul_assoc]; omega
theorem dk_f {a b c q r k : Nat} (h : q * c + r = dx a b k) (hr : r < c) (hq : 1125899906842624 < q) : dk a b c = false := by
  have h1 := (div_exit h hr).1
  have h2 := Nat.div_le_div_right (c := c) (dx_mono a b k)
  rw [h1] at h2
  unfold dk
  rw [decide_eq_false_iff_not]
  intro h3
  have : ((a * b / c : Nat) : Int) ≤ 1125899906842624 := by push_cast; exact h3
  omega
theorem dqr_t {a b c q r : Nat} (h : q * c + r = dx a b 0) (hr : r < c) (hq : q ≤ 1125899906842624) : dq a b c = q ∧ dr a b c = r ∧ dk a b c = true := by
  rw [dx_zero] at h
  have h1 := div_exit h hr
  have hk : dk a b c = true := by
    unfold dk
    rw [decide_eq_true_iff]
    have : ((a * b / c : Nat) : Int) ≤ 1125899906842624 := by omega
    push_cast at this; exact this
  refine ⟨?_, ?_, hk⟩
  · unfold dq; rw [if_pos hk, ← h1.1]; push_cast; rfl
  · unfold dr; rw [if_pos hk, ← h1.2]; push_cast; rfl
theorem div_sub {q r c X : Nat} (h : q * c + r = X) (hr : c ≤ r) : (q + 1) * c + (r - c) = X := by
  rw [Nat.add_mul]; omega

theorem two63 : (2 : Int) ^ 63 = 9223372036854775808 := by decide
theorem and1_i64 (m : Nat) (hm : m < 9223372036854775808) : bits BinOp.and IntKind.i64 (m : Int) 1 = ((m % 2 : Nat) : Int) := by
  have h := bits_mask .i64 63 (by decide) (fun n h0 h1 => by rw [two63] at h1; rw [IntKind.wrap_i64]; omega) 1 (by decide) (m : Int) (by omega) (by rw [two63]; omega)
  have e : ((2 : Int) ^ 1 - 1) = 1 := by decide
  rw [e] at h
  rw [h]
  omega
theorem bit_test (a k : Nat) (ha : (a : Int) ≤ 1125899906842624) : bits BinOp.and IntKind.i64 ((a : Int) / 2 ^ k) 1 = ((a / 2 ^ k % 2 : Nat) : Int) := by
  have h := and1_i64 (a / 2 ^ k) (by have := Nat.div_le_self a (2 ^ k); omega)
  rw [← h]
  congr 1

set_option maxHeartbeats 1600000 in
theorem l01Div_spec (a b c : Int) (w : World) (ha : 0 ≤ a ∧ a ≤ 1125899906842624) (hb : 0 ≤ b ∧ b ≤ 1125899906842624) (hc : 1 ≤ c ∧ c ≤ 1125899906842624) :
    Calls Tryd.prog 145 #[.int .i64 a, .int .i64 b, .int .i64 c] w fun e w' => e = .returned (.tuple #[.int .i64 (dq a b c), .int .i64 (dr a b c), .bool (dk a b c)]) ∧ w = w' := by
  obtain ⟨a, rfl⟩ := Int.eq_ofNat_of_zero_le ha.1
  obtain ⟨b, rfl⟩ := Int.eq_ofNat_of_zero_le hb.1
  obtain ⟨c, rfl⟩ := Int.eq_ofNat_of_zero_le (show 0 ≤ c by omega)
  obtain ⟨-, ha⟩ := ha
  obtain ⟨-, hb⟩ := hb
  obtain ⟨hc0, hc⟩ := hc
  have Hx := Lib.hid (dx_top (a := a) (b := b) (by omega))
  have hbc0 : 0 ≤ (b : Int) / c := Int.ediv_nonneg (by omega) (by omega)
  have hbc1 : (b : Int) / c ≤ 1125899906842624 := Int.le_trans (Int.ediv_le_self _ (by omega)) hb
  have hbr0 : 0 ≤ (b : Int) % c := Int.emod_nonneg _ (by omega)
  have hbr1 : (b : Int) % c < c := Int.emod_lt_of_pos _ (by omega)
  go_enter Tryd.func145, Tryd.ntmps145
  go_wp2
  go_loop [9, 10, 11] (fun q r i => ∃ (z : Int) (q' r' : Nat), -1 ≤ z ∧ z ≤ 50 ∧ i = .int .i64 z ∧ q = .int .i64 q' ∧ r = .int .i64 r' ∧ q' ≤ 1125899906842624 ∧ r' < c ∧ Hid (dx a b (z + 1).toNat = q' * c + r')) (fun _ _ i => (intOf i + 1).toNat)
  case atStart => exact ⟨50, 0, 0, by omega, by omega, rfl, rfl, rfl, by omega, by omega, by unfold Hid; rw [show ((50 : Int) + 1).toNat = 51 from rfl, Hx.out]; simp⟩
  case round =>
    obtain ⟨z, q, r, hz0, hz1, rfl, rfl, rfl, hq, hr, hX⟩ := hrel
    by_cases hz : 0 ≤ z
    · obtain ⟨k, rfl⟩ := Int.eq_ofNat_of_zero_le hz
      rw [show ((k : Int) + 1).toNat = k + 1 by omega] at hX
      by_cases hbit : a / 2 ^ k % 2 = 1
      · have Hb := Lib.hid (div_one hX.out hbit)
        have ht : (bits BinOp.and IntKind.i64 (a / 2 ^ k) 1 == 1) = true := by rw [bit_test a k ha, hbit]; rfl
        clear hbit hX
        go_wp2
        go_loop [9, 10] (fun q r => ∃ q2 r2 : Nat, q = .int .i64 q2 ∧ r = .int .i64 r2 ∧ q2 + r2 ≤ 9007199254740992 ∧ Hid (q2 * c + r2 = dx a b k)) (fun _ r => (intOf r).toNat)
        case atStart => exact ⟨2 * q + b / c, 2 * r + b % c, by go_num, by go_num, by omega, Hb⟩
        case round =>
          obtain ⟨q2, r2, rfl, rfl, hqr, hX2⟩ := hrel
          by_cases hrc : c ≤ r2
          · have Hn := Lib.hid (div_sub hX2.out hrc)
            clear hX2
            go_wp2
            go_round
            case rel => exact ⟨q2 + 1, r2 - c, by go_num, val_int (by omega), by omega, Hn⟩
            case measure => simp [intOf]; omega
          · by_cases hbig : 1125899906842624 < q2
            · have Hk := Lib.hid (dk_f hX2.out (by omega) hbig)
              clear hX2 Hb
              go_wp2
              go_ret3
              exact ⟨by unfold dq dr; rw [Hk.out]; rfl, rfl⟩
            · go_wp2
              go_round
              case rel => exact ⟨(k : Int) - 1, q2, r2, by omega, by omega, rfl, rfl, rfl, by omega, by omega, by unfold Hid; rw [show ((k : Int) - 1 + 1).toNat = k by omega]; exact hX2.out.symm⟩
              case measure => simp [intOf] <;> omega
      · have Hb := Lib.hid (div_zero hX.out (by omega))
        have ht : (bits BinOp.and IntKind.i64 (a / 2 ^ k) 1 == 1) = false := by rw [bit_test a k ha, show a / 2 ^ k % 2 = 0 by omega]; rfl
        clear hbit hX
        go_wp2
        go_loop [9, 10] (fun q r => ∃ q2 r2 : Nat, q = .int .i64 q2 ∧ r = .int .i64 r2 ∧ q2 + r2 ≤ 9007199254740992 ∧ Hid (q2 * c + r2 = dx a b k)) (fun _ r => (intOf r).toNat)
        case atStart => exact ⟨2 * q, 2 * r, by go_num, by go_num, by omega, Hb⟩
        case round =>
          obtain ⟨q2, r2, rfl, rfl, hqr, hX2⟩ := hrel
          by_cases hrc : c ≤ r2
          · have Hn := Lib.hid (div_sub hX2.out hrc)
            clear hX2
            go_wp2
            go_round
            case rel => exact ⟨q2 + 1, r2 - c, by go_num, val_int (by omega), by omega, Hn⟩
            case measure => simp [intOf]; omega
          · by_cases hbig : 1125899906842624 < q2
            · have Hk := Lib.hid (dk_f hX2.out (by omega) hbig)
              clear hX2 Hb
              go_wp2
              go_ret3
              exact ⟨by unfold dq dr; rw [Hk.out]; rfl, rfl⟩
            · go_wp2
              go_round
              case rel => exact ⟨(k : Int) - 1, q2, r2, by omega, by omega, rfl, rfl, rfl, by omega, by omega, by unfold Hid; rw [show ((k : Int) - 1 + 1).toNat = k by omega]; exact hX2.out.symm⟩
              case measure => simp [intOf] <;> omega
    · obtain rfl : z = -1 := by omega
      have Hd := Lib.hid (dqr_t hX.out.symm hr hq)
      clear hX
      go_wp2
      go_ret3
      exact ⟨by rw [Hd.out.1, Hd.out.2.1, Hd.out.2.2]; rfl, rfl⟩

end Go.Proofs.YtegnlijgjcfmlaaDoor
