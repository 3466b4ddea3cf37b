/- Even parts add up and differ by at most one: the law walked. -/
import Derived.Test.YtegnlijgjcfmlaaEven
import Derived.Test.YtegnlijgjcfmlaaPSum
import Derived.Test.YtegnlijgjcfmlaaDraw
import Derived.Test.YtegnlijgjcfmlaaOpenB
namespace Go.Proofs.Ytegnlijgjcfmlaa
open Go.RowKit
set_option linter.unusedVariables false
set_option linter.unusedSimpArgs false

theorem evenL_sum {m n : Int} (hn : 0 < n) : ∀ k : Nat, (k : Int) ≤ n → (evenL m n k).sum = k * (m / n) + min (k : Int) (m % n)
  | 0, _ => by
    have := Int.emod_nonneg m (by omega : n ≠ 0)
    simp [evenL]; omega
  | k + 1, hk => by
    rw [evenL_snoc, sum_snoc, evenL_sum hn k (by omega)]
    have : (((k + 1 : Nat) : Int)) * (m / n) = k * (m / n) + m / n := by rw [Int.natCast_add, Int.add_mul]; simp
    rw [this]
    unfold evenPart
    split <;> omega
theorem evens_sum {m n : Int} (h : evenOk m n = true) : (evens m n).sum = m := by
  have hb := evenOk_t h
  rw [show evens m n = evenL m n n.toNat from if_pos h, evenL_sum (by omega) _ (by omega)]
  have h1 := Int.emod_lt_of_pos m (show 0 < n by omega)
  have h2 := Int.mul_ediv_add_emod m n
  rw [show ((n.toNat : Nat) : Int) = n by omega]
  omega
theorem evenPart_le {m n : Int} (h : evenOk m n = true) (i : Nat) : 0 ≤ evenPart m n i ∧ evenPart m n i ≤ 1125899906842624 := by
  have hb := evenOk_t h
  have h0 := evenPart_bd h i
  refine ⟨h0.1, ?_⟩
  have h1 : 0 ≤ m / n := Int.ediv_nonneg hb.1.1 (by omega)
  have h2 := Int.mul_ediv_add_emod m n
  have h4 := Int.emod_nonneg m (by omega : n ≠ 0)
  have h3 : 1 * (m / n) ≤ n * (m / n) := Int.mul_le_mul_of_nonneg_right (by omega) h1
  unfold evenPart
  split <;> omega
theorem evens_ok {m n : Int} (h : evenOk m n = true) : sumOk (evens m n) = true := by
  have hb := evenOk_t h
  unfold sumOk
  rw [evens_sum h]
  have : allAmt (evens m n) = true := by
    rw [show evens m n = evenL m n n.toNat from if_pos h]
    unfold allAmt evenL
    rw [List.all_eq_true]
    intro x hx
    simp only [List.mem_map, List.mem_range] at hx
    obtain ⟨i, _, rfl⟩ := hx
    have := evenPart_le h i
    exact amtOk_t' this.1 this.2
  rw [this]
  simp; omega
theorem evens_at {m n : Int} (h : evenOk m n = true) {i : Nat} {x : Int} (hx : (evens m n)[i]? = some x) : x = evenPart m n i := by
  rw [show evens m n = evenL m n n.toNat from if_pos h] at hx
  unfold evenL at hx
  rw [List.getElem?_map] at hx
  have hi : i < n.toNat := by
    have := List.getElem?_eq_some_iff.1 (Option.map_eq_some_iff.1 hx).choose_spec.1
    simpa using this.1
  rw [List.getElem?_range hi] at hx
  simpa using hx.symm
theorem evens_diff {m : Int} {k : Nat} (h : evenOk m (k + 1) = true) : 0 ≤ evenPart m (k + 1) 0 - evenPart m (k + 1) k ∧ evenPart m (k + 1) 0 - evenPart m (k + 1) k ≤ 1 := by
  have h1 := Int.emod_lt_of_pos m (show 0 < (k : Int) + 1 by omega)
  have h2 : ¬ ((k : Int) < m % ((k : Int) + 1)) := by omega
  have e : evenPart m (k + 1) k = m / (k + 1) := by unfold evenPart; rw [if_neg h2]; omega
  rw [e]
  unfold evenPart
  split <;> omega

set_option maxRecDepth 100000 in
set_option maxHeartbeats 3200000 in
theorem walk_FnEven (a : Option Addr) (len cap : Nat) (xs : List Int) (w : World) (S0 : Bs w w.heap.size a len xs) : Calls Try.prog 3 #[.slice a len cap] w fun e w' => e = .returned (.bool true) ∧ Below w.heap.size w w' := by
  have hl := S0.lenB
  by_cases hlen : len ≤ 1048576
  · go_enter Try.func3, Try.ntmps3
    go_wp2_with fail
    refine (drawEven_any _ _ _ xs _ S0).mono ?_
    rintro e w1 ⟨⟨m, n, rfl, hm, hn⟩, b1⟩
    have z1 := b1.size
    by_cases h : evenOk m n = true
    · have hb := evenOk_t h
      obtain ⟨k, hk⟩ : ∃ k : Nat, n - 1 = (k : Int) := ⟨(n - 1).toNat, by omega⟩
      have hk' : n = (k : Int) + 1 := by omega
      have Hk := Lib.hid hk'
      clear hk'
      obtain ⟨ln, hln⟩ : ∃ ln : Nat, ln = k + 1 := ⟨_, rfl⟩
      have hL : (evens m n).length = ln := by rw [show evens m n = evenL m n n.toNat from if_pos h, evenL_len]; omega
      have H := Lib.hid h
      have Hln := Lib.hid hln
      clear h hln
      go_wp2_with fail
      refine (splitEven_impl m _ _).mono ?_
      rintro e w2 ⟨⟨a2, c2, he, o2⟩, b2⟩
      rw [hL, H.out] at he
      rw [hL] at o2
      subst he
      have z2 := b2.size
      go_wp2_with fail
      refine (splitEven_spec m _ _).mono ?_
      rintro e w3 ⟨⟨a3, c3, he, -⟩, b3⟩
      rw [hL, H.out] at he
      subst he
      have z3 := b3.size
      have i3 := (o2.keep b3).is
      clear hL
      go_wp2_with fail
      refine (partsSum_impl _ _ _ (evens m n) _ i3).mono ?_
      rintro e w4 ⟨he, rfl⟩
      rw [if_pos (evens_ok H.out), evens_sum H.out] at he
      subst he
      obtain ⟨b, off, x, rfl, hb, hc, hbd, hx, _⟩ := i3.at_ (k := 0) (by have := Hln.out; omega)
      obtain ⟨b', off', y, e, hb', hc', hbd', hy, _⟩ := i3.at_ (k := k) (by have := Hln.out; omega)
      injection e with e
      injection e with e1 e2
      subst e1
      subst e2
      have hx' := evens_at H.out hx.out
      have hy' := evens_at H.out hy.out
      have hd := evens_diff (m := m) (k := k) (by rw [← Hk.out]; exact H.out)
      rw [← Hk.out] at hd
      rw [← hx', ← hy'] at hd
      simp only [Nat.add_zero] at hc
      obtain ⟨hd1, hd2⟩ := hd
      have q1 : ((ln : Int) == n) = true := by have := Hk.out; have := Hln.out; simp; omega
      have q4 : k < ln := by have := Hln.out; omega
      have q5 : 0 < ln := by omega
      have Hk2 := Lib.hid hk
      have q7 : IntKind.i64.wrap (n - 1) = (k : Int) := by rw [IntKind.wrap_i64]; omega
      have q8 : IntKind.i64.wrap (x - y) = x - y := by rw [IntKind.wrap_i64]; omega
      have q6 : k ≤ 40 := by omega
      clear hk
      have q9 : decide (y ≤ x) = true := decide_eq_true (by omega)
      have q2 : decide (0 ≤ x - y) = true := decide_eq_true hd1
      have q3 : decide (x - y ≤ 1) = true := decide_eq_true hd2
      clear hx' hy' hx hy
      go_wp2
      go_quiet (fail)
      go_wp2
      go_ret
      exact ⟨rfl, below_drewN (b1.trans ((b2.mono z1).trans (b3.mono (Nat.le_trans z1 z2))))⟩
    · have H : Hid (evenOk m n = false) := Bool.eq_false_iff.2 h
      have hE : evens m n = [] := if_neg h
      clear h
      go_wp2_with fail
      refine (splitEven_impl m _ _).mono ?_
      rintro e w2 ⟨⟨a2, c2, he, o2⟩, b2⟩
      rw [hE, H.out] at he
      subst he
      have z2 := b2.size
      go_wp2_with fail
      refine (splitEven_spec m _ _).mono ?_
      rintro e w3 ⟨⟨a3, c3, he, -⟩, b3⟩
      rw [hE, H.out] at he
      subst he
      clear hE
      go_wp2
      go_ret
      exact ⟨rfl, b1.trans ((b2.mono z1).trans (b3.mono (Nat.le_trans z1 z2)))⟩
  · go_enter Try.func3, Try.ntmps3
    go_wp2
    go_ret
    exact ⟨rfl, Below.refl _ _⟩

end Go.Proofs.Ytegnlijgjcfmlaa
