/- The reference divides bit by bit. -/
import Derived.Test.YtafbdbefmlgioaaGreatDoorAdd
import Derived.Laws.BitsAllLaws
import Derived.Test.YtafbdbefmlgioaaGreatDoorKnuth
import Derived.Test.YtafbdbefmlgioaaGreatDoorShelf
import Derived.Lib.ItoaNum
import Derived.Deep.CutBlock
import Derived.Deep.DeepCutAuto
import Derived.Laws.MathBits
namespace Go.Proofs.YtafbdbefmlgioaaGreatDoor
open Go.RowKit
set_option linter.unusedVariables false
set_option linter.unusedSimpArgs false

def dk (a b c : Int) : Bool := decide (a * b / c ≤ 1125899906842624)
def dq (a b c : Int) : Int := if dk a b c = true then a * b / c else 0
def dr (a b c : Int) : Int := if dk a b c = true then a * b % c else 0
theorem dq_bd {a b c : Int} (ha : 0 ≤ a) (hb : 0 ≤ b) (hc : 1 ≤ c) : 0 ≤ dq a b c ∧ dq a b c ≤ 1125899906842624 := by
  unfold dq
  split
  · rename_i h
    have := of_decide_eq_true h
    exact ⟨Int.ediv_nonneg (Int.mul_nonneg ha hb) (by omega), this⟩
  · omega
theorem dr_bd {a b c : Int} (hc : 1 ≤ c) : 0 ≤ dr a b c ∧ dr a b c < c := by
  unfold dr
  split
  · exact ⟨Int.emod_nonneg _ (by omega), Int.emod_lt_of_pos _ (by omega)⟩
  · omega
/-- a's bits from k on, times b -/
def dx (a b k : Nat) : Nat := a / 2 ^ k * b
theorem dx_top {a b : Nat} (ha : a ≤ 1125899906842624) : dx a b 51 = 0 := by
  unfold dx; rw [Nat.div_eq_of_lt (by omega), Nat.zero_mul]
theorem dx_zero (a b : Nat) : dx a b 0 = a * b := by simp [dx]
theorem dx_step (a b k : Nat) : dx a b k = 2 * dx a b (k + 1) + a / 2 ^ k % 2 * b := by
  unfold dx
  have e : a / 2 ^ (k + 1) = a / 2 ^ k / 2 := by rw [Nat.pow_succ, Nat.div_div_eq_div_mul]
  rw [e]
  generalize a / 2 ^ k = m
  have : m = 2 * (m / 2) + m % 2 := by omega
  calc m * b = (2 * (m / 2) + m % 2) * b := by rw [← this]
    _ = _ := by rw [Nat.add_mul, Nat.mul_assoc]
/-- a greater quotient on the way is a greater one at the end -/
theorem dx_mono (a b : Nat) : ∀ k, dx a b k ≤ a * b
  | 0 => by rw [dx_zero]; exact Nat.le_refl _
  | k + 1 => by have := dx_step a b k; have := dx_mono a b k; omega
theorem div_exit {X q r c : Nat} (h : q * c + r = X) (hr : r < c) : X / c = q ∧ X % c = r := by
  subst h
  rw [Nat.mul_comm, Nat.mul_add_div (by omega), Nat.mul_add_mod, Nat.div_eq_of_lt hr, Nat.mod_eq_of_lt hr]
  exact ⟨by omega, rfl⟩
theorem div_zero {a b c k q r : Nat} (hk : dx a b (k + 1) = (q * c + r)) (h0 : a / 2 ^ k % 2 = 0) : 2 * q * c + 2 * r = dx a b k := by
  rw [dx_step, hk, h0, Nat.mul_add, Nat.mul_assoc]; omega
theorem div_one {a b c k q r : Nat} (hk : dx a b (k + 1) = (q * c + r)) (h0 : a / 2 ^ k % 2 = 1) : (2 * q + b / c) * c + (2 * r + b % c) = dx a b k := by
  have hb : b / c * c + b % c = b := by rw [Nat.mul_comm]; exact Nat.div_add_mod b c
  rw [dx_step, hk, h0, Nat.mul_add, Nat.add_mul, Nat.mul_assoc]; omega
theorem dk_f {a b c q r k : Nat} (h : q * c + r = dx a b k) (hr : r < c) (hq : 1125899906842624 < q) : dk a b c = false := by
  have h1 := (div_exit h hr).1
  have h2 := Nat.div_le_div_right (c := c) (dx_mono a b k)
  rw [h1] at h2
  unfold dk
  rw [decide_eq_false_iff_not]
  intro h3
  have : ((a * b / c : Nat) : Int) ≤ 1125899906842624 := by push_cast; exact h3
  omega
theorem dqr_t {a b c q r : Nat} (h : q * c + r = dx a b 0) (hr : r < c) (hq : q ≤ 1125899906842624) : dq a b c = q ∧ dr a b c = r ∧ dk a b c = true := by
  rw [dx_zero] at h
  have h1 := div_exit h hr
  have hk : dk a b c = true := by
    unfold dk
    rw [decide_eq_true_iff]
    have : ((a * b / c : Nat) : Int) ≤ 1125899906842624 := by omega
    push_cast at this; exact this
  refine ⟨?_, ?_, hk⟩
  · unfold dq; rw [if_pos hk, ← h1.1]; push_cast; rfl
  · unfold dr; rw [if_pos hk, ← h1.2]; push_cast; rfl
theorem div_sub {q r c X : Nat} (h : q * c + r = X) (hr : c ≤ r) : (q + 1) * c + (r - c) = X := by
  rw [Nat.add_mul]; omega

theorem two63 : (2 : Int) ^ 63 = 9223372036854775808 := by decide
theorem and1_i64 (m : Nat) (hm : m < 9223372036854775808) : bits BinOp.and IntKind.i64 (m : Int) 1 = ((m % 2 : Nat) : Int) := by
  have h := bits_mask .i64 63 (by decide) (fun n h0 h1 => by rw [two63] at h1; rw [IntKind.wrap_i64]; omega) 1 (by decide) (m : Int) (by omega) (by rw [two63]; omega)
  have e : ((2 : Int) ^ 1 - 1) = 1 := by decide
  rw [e] at h
  rw [h]
  omega
theorem bit_test (a k : Nat) (ha : (a : Int) ≤ 1125899906842624) : bits BinOp.and IntKind.i64 ((a : Int) / 2 ^ k) 1 = ((a / 2 ^ k % 2 : Nat) : Int) := by
  have h := and1_i64 (a / 2 ^ k) (by have := Nat.div_le_self a (2 ^ k); omega)
  rw [← h]
  congr 1

theorem wrap_u64_in {n : Int} (h0 : 0 ≤ n) (h1 : n ≤ 18446744073709551615) : IntKind.u64.wrap n = n := IntWalk.u64_in n ⟨h0, h1⟩
theorem bitLen_bd {x : Nat} (h0 : 0 < x) (h : x < 18446744073709551616) : 1 ≤ Lib.bitLen x ∧ Lib.bitLen x ≤ 64 ∧ 2 ^ (Lib.bitLen x - 1) ≤ x ∧ x < 2 ^ Lib.bitLen x := by
  have hb := Lib.bitLenAux_bounds 64 x (by omega) (by omega)
  refine ⟨hb.1, ?_, hb.2⟩
  rcases Nat.lt_or_ge 64 (Lib.bitLenAux 64 x) with h1 | h1
  · have : 2 ^ 64 ≤ 2 ^ (Lib.bitLenAux 64 x - 1) := Nat.pow_le_pow_right (by omega) (by omega)
    have := hb.2.1
    omega
  · exact h1

theorem low_mask (n : Nat) (h : n < 18446744073709551616) : bits BinOp.and IntKind.u64 (n : Int) 4294967295 = ((n % 4294967296 : Nat) : Int) := by
  rw [and_low32 (n : Int) (by omega) (by omega)]; omega
theorem shl_in {n : Nat} (h : n < 18446744073709551616) : IntKind.u64.wrap (n : Int) = (n : Int) := wrap_u64_in (by omega) (by omega)
theorem or_nat {h l : Nat} (hh : h < 18446744073709551616) (hl : l < 18446744073709551616) : bits BinOp.or IntKind.u64 (IntKind.u64.wrap (h : Int)) (l : Int) = ((h ||| l : Nat) : Int) := by
  rw [shl_in hh, u64_or _ _ (by omega) (by omega) (by omega) (by omega)]
  rfl
theorem wrap_sub (a b c : Int) : IntKind.u64.wrap (IntKind.u64.wrap (IntKind.u64.wrap a + b) - IntKind.u64.wrap c) = IntKind.u64.wrap (a + b - c) := by
  simp only [IntKind.wrap_u64]; omega
theorem wrap_add (a b : Int) : IntKind.u64.wrap (IntKind.u64.wrap a + b) = IntKind.u64.wrap (a + b) := by
  simp only [IntKind.wrap_u64]; omega
/-- the rest, whatever wraps on the way -/
theorem rest_wrap {n2 n1 Q Y U : Nat} (hQ : Q = (n2 * 4294967296 + n1) / Y) (hU : U = (n2 * 4294967296 + n1) % Y) (h : U < 18446744073709551616) :
    IntKind.u64.wrap (IntKind.u64.wrap (IntKind.u64.wrap ((n2 : Int) * 4294967296) + n1) - IntKind.u64.wrap ((Q : Int) * Y)) = (U : Int) := by
  have h1 := Nat.div_add_mod (n2 * 4294967296 + n1) Y
  rw [← hQ, ← hU] at h1
  rw [wrap_sub, ← shl_in h]
  congr 1
  have h2 : ((Y * Q + U : Nat) : Int) = ((n2 * 4294967296 + n1 : Nat) : Int) := by rw [h1]
  rw [Int.natCast_add, Int.natCast_mul] at h2
  rw [Int.mul_comm (Q : Int)]
  omega
/-- the high word, shifted, and the low word's upper bits -/
theorem or_high {hi lo s : Nat} (hs : s ≤ 63) (h : hi * 2 ^ s + lo / 2 ^ (64 - s) < 18446744073709551616) (hl : lo < 18446744073709551616) :
    bits BinOp.or IntKind.u64 (IntKind.u64.wrap ((hi : Int) * 2 ^ s)) ((lo : Int) / 2 ^ (64 - s)) = ((hi * 2 ^ s + lo / 2 ^ (64 - s) : Nat) : Int) := by
  have h1 : lo / 2 ^ (64 - s) < 2 ^ s := by
    rw [Nat.div_lt_iff_lt_mul (Nat.two_pow_pos _), ← Nat.pow_add, show s + (64 - s) = 64 by omega]; exact hl
  have e1 : ((hi : Int) * 2 ^ s) = ((hi * 2 ^ s : Nat) : Int) := by push_cast; rfl
  have e2 : ((lo : Int) / 2 ^ (64 - s)) = ((lo / 2 ^ (64 - s) : Nat) : Int) := by push_cast; rfl
  rw [e1, e2, or_nat (Nat.lt_of_le_of_lt (Nat.le_add_right _ _) h) (Nat.lt_of_le_of_lt (Nat.le_add_left _ _) h), Nat.mul_comm, ← Nat.two_pow_add_eq_or_of_lt h1]
theorem shift_parts {hi lo s : Nat} (hs : s ≤ 63) (hl : lo < 18446744073709551616) : (hi * 18446744073709551616 + lo) * 2 ^ s = (hi * 2 ^ s + lo / 2 ^ (64 - s)) * 18446744073709551616 + lo * 2 ^ s % 18446744073709551616 := by
  have e : (18446744073709551616 : Nat) = 2 ^ (64 - s) * 2 ^ s := by rw [← Nat.pow_add, show 64 - s + s = 64 by omega]
  have h1 : lo * 2 ^ s / 18446744073709551616 = lo / 2 ^ (64 - s) := by rw [e, Nat.mul_div_mul_right _ _ (Nat.two_pow_pos _)]
  have h2 := Nat.div_add_mod (lo * 2 ^ s) 18446744073709551616
  rw [h1] at h2
  rw [Nat.add_mul, Nat.add_mul, Nat.mul_right_comm]
  omega

def dvIn (a b c : Int) : Bool := amtOk a && amtOk b && inB c 1 1125899906842624
def dv (a b c : Int) : Bool := dvIn a b c && dk a b c
def dvq (a b c : Int) : Int := if dv a b c = true then a * b / c else 0
def dvr (a b c : Int) : Int := if dv a b c = true then a * b % c else 0
theorem dvIn_t {a b c : Int} (h : dvIn a b c = true) : (0 ≤ a ∧ a ≤ 1125899906842624) ∧ (0 ≤ b ∧ b ≤ 1125899906842624) ∧ 1 ≤ c ∧ c ≤ 1125899906842624 := by simpa [dvIn, amtOk, inB, and_assoc] using h
theorem dvIn_of {a b c : Int} (h : (0 ≤ a ∧ a ≤ 1125899906842624) ∧ (0 ≤ b ∧ b ≤ 1125899906842624) ∧ 1 ≤ c ∧ c ≤ 1125899906842624) : dvIn a b c = true := by simpa [dvIn, amtOk, inB, and_assoc] using h
theorem dv_in {a b c : Int} (h : dvIn a b c = true) : dv a b c = dk a b c ∧ dvq a b c = dq a b c ∧ dvr a b c = dr a b c := by simp [dv, dvq, dvr, dq, dr, h]
theorem dv_out {a b c : Int} (h : dvIn a b c = false) : dv a b c = false ∧ dvq a b c = 0 ∧ dvr a b c = 0 := by simp [dv, dvq, dvr, h]
theorem dvq_bd (a b c : Int) : 0 ≤ dvq a b c ∧ dvq a b c ≤ 1125899906842624 := by
  cases h : dvIn a b c with
  | false => rw [(dv_out h).2.1]; omega
  | true => rw [(dv_in h).2.1]; have hb := dvIn_t h; exact dq_bd hb.1.1 hb.2.1.1 hb.2.2.1
theorem dvr_bd (a b c : Int) : 0 ≤ dvr a b c ∧ dvr a b c ≤ 1125899906842624 := by
  cases h : dvIn a b c with
  | false => rw [(dv_out h).2.2]; omega
  | true => rw [(dv_in h).2.2]; have hb := dvIn_t h; have := dr_bd (a := a) (b := b) hb.2.2.1; omega

end Go.Proofs.YtafbdbefmlgioaaGreatDoor
