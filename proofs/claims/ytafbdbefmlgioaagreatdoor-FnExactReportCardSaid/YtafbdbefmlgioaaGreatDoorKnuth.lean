/- Two digits by one: the plain law of the division of the library. -/
namespace Go.Proofs.YtafbdbefmlgioaaGreatDoor.Knuth
/-- one digit of the quotient: the guess stays at or above the true digit, and where the test fails it is the digit -/
theorem key {n2 n1 d1 d0 q r B : Nat} (h : q * d1 + r = n2) : q * (d1 * B + d0) ≤ n2 * B + n1 ↔ q * d0 ≤ B * r + n1 := by
  subst h
  have e1 : q * (d1 * B + d0) = q * d1 * B + q * d0 := by rw [Nat.mul_add, Nat.mul_assoc]
  have e2 : (q * d1 + r) * B = q * d1 * B + B * r := by rw [Nat.add_mul, Nat.mul_comm r B]
  rw [e1, e2]; omega
theorem q_lt {n2 n1 y B : Nat} (hy : n2 < y) (h1 : n1 < B) : (n2 * B + n1) / y < B := by
  have hB : 0 < B := by omega
  rw [Nat.div_lt_iff_lt_mul (by omega)]
  have : n2 * B + B ≤ y * B := by rw [← Nat.succ_mul]; exact Nat.mul_le_mul_right _ hy
  rw [Nat.mul_comm B y]; omega
/-- the guess is too great: one less is still not too small -/
theorem down {n2 n1 d1 d0 q r B : Nat} (hB : n1 < B) (hy : n2 < d1 * B + d0) (h : q * d1 + r = n2) (ht : B ≤ q ∨ B * r + n1 < q * d0) :
    0 < q ∧ (q - 1) * d1 + (r + d1) = n2 ∧ (n2 * B + n1) / (d1 * B + d0) ≤ q - 1 := by
  have hlt : (n2 * B + n1) / (d1 * B + d0) < q := by
    rcases ht with ht | ht
    · exact Nat.lt_of_lt_of_le (q_lt hy hB) ht
    · rw [Nat.div_lt_iff_lt_mul (by omega)]
      have := key (B := B) (n1 := n1) (d0 := d0) h
      omega
  have hq0 : 0 < q := Nat.lt_of_le_of_lt (Nat.zero_le _) hlt
  refine ⟨hq0, ?_, by omega⟩
  have : (q - 1) * d1 + d1 = q * d1 := by rw [← Nat.succ_mul, Nat.succ_eq_add_one, Nat.sub_add_cancel hq0]
  omega
theorem done {n2 n1 d1 d0 q r B : Nat} (hy : n2 < d1 * B + d0) (h : q * d1 + r = n2) (hq : (n2 * B + n1) / (d1 * B + d0) ≤ q) (ht : q * d0 ≤ B * r + n1) :
    q = (n2 * B + n1) / (d1 * B + d0) := by
  apply Nat.le_antisymm _ hq
  rw [Nat.le_div_iff_mul_le (by omega)]
  exact (key h).2 ht
theorem start {n2 n1 d1 d0 B : Nat} (hd : B ≤ 2 * d1) (h0 : d0 < B) (h1 : d1 < B) (hn : n1 < B) (hy : n2 < d1 * B + d0) :
    n2 / d1 * d1 + n2 % d1 = n2 ∧ (n2 * B + n1) / (d1 * B + d0) ≤ n2 / d1 ∧ n2 / d1 ≤ B + 1 ∧ n2 % d1 < B := by
  have hp : 0 < d1 := by omega
  refine ⟨by rw [Nat.mul_comm]; exact Nat.div_add_mod _ _, ?_, ?_, Nat.lt_trans (Nat.mod_lt _ hp) h1⟩
  · rw [Nat.le_div_iff_mul_le hp]
    have h2 : (n2 * B + n1) / (d1 * B + d0) * (d1 * B + d0) ≤ n2 * B + n1 := Nat.div_mul_le_self _ _
    generalize (n2 * B + n1) / (d1 * B + d0) = q at *
    rw [Nat.mul_add, ← Nat.mul_assoc] at h2
    have h3 : q * d1 * B < (n2 + 1) * B := by rw [Nat.add_mul]; omega
    have := Nat.lt_of_mul_lt_mul_right h3
    omega
  · have h2 : n2 / d1 * d1 ≤ n2 := Nat.div_mul_le_self _ _
    generalize n2 / d1 = q at *
    have h3 : q * d1 < (B + 2) * d1 := by rw [Nat.add_mul, Nat.mul_comm B d1]; omega
    have := Nat.lt_of_mul_lt_mul_right h3
    omega
theorem brk {q r d0 n1 B : Nat} (hq : q ≤ B) (h0 : d0 < B) (hr : B ≤ r) : q * d0 ≤ B * r + n1 := by
  have h1 : q * d0 ≤ B * d0 := Nat.mul_le_mul_right _ hq
  have h2 : B * d0 ≤ B * r := Nat.mul_le_mul_left _ (by omega)
  omega
/-- two digits -/
theorem two {n2 n1 n0 y B : Nat} (hy : 0 < y) : (n2 * B + n1) / y * B + ((n2 * B + n1) % y * B + n0) / y = ((n2 * B + n1) * B + n0) / y ∧ ((n2 * B + n1) % y * B + n0) % y = ((n2 * B + n1) * B + n0) % y := by
  generalize n2 * B + n1 = u
  have e : u * B + n0 = y * (u / y * B) + (u % y * B + n0) := by
    have := Nat.div_add_mod u y
    calc u * B + n0 = (y * (u / y) + u % y) * B + n0 := by rw [this]
      _ = _ := by rw [Nat.add_mul, Nat.mul_assoc]; omega
  rw [e]
  constructor
  · rw [Nat.mul_add_div hy]
  · rw [Nat.mul_add_mod]
end Go.Proofs.YtafbdbefmlgioaaGreatDoor.Knuth
