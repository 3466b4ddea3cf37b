/- Numbers as texts: all of them. -/
import Derived.Test.YtafbdbefmlgioaaGreatDoorNumI
namespace Go.Proofs.YtafbdbefmlgioaaGreatDoor
open Go.RowKit
set_option linter.unusedVariables false
set_option linter.unusedSimpArgs false

def numOk (n : Int) : Bool := inB n (-1125899906842624) 1125899906842624
/-- what NumText writes -/
def ntext (n : Int) : List UInt8 := if numOk n = true then Lib.itoa n else []
theorem ntext_nn {u : Nat} (h : u ≤ 1125899906842624) : ntext (u : Int) = Lib.decDigits u := by
  unfold ntext numOk
  rw [if_pos (show inB _ _ _ = true from decide_eq_true (by omega)), Lib.itoa_nonneg]
theorem ntext_neg {u : Nat} (h1 : 1 ≤ u) (h : u ≤ 1125899906842624) : ntext (-(u : Int)) = 45 :: Lib.decDigits u := by
  unfold ntext numOk
  rw [if_pos (show inB _ _ _ = true from decide_eq_true (by omega)), Lib.itoa_neg u h1]
theorem ntext_out {n : Int} (h : numOk n = false) : ntext n = [] := by unfold ntext; rw [h]; rfl
theorem nDigits_le : ∀ (k u : Nat), u < 10 ^ (k + 1) → Lib.nDigits u ≤ k + 1
  | 0, u, h => by rw [Lib.nDigits_small (by omega)]; omega
  | k + 1, u, h => by
    by_cases h1 : u < 10
    · rw [Lib.nDigits_small h1]; omega
    · rw [Lib.nDigits_big h1]
      have := nDigits_le k (u / 10) (by rw [Nat.pow_succ] at h; omega)
      omega
theorem dec_len16 {u : Nat} (h : u ≤ 1125899906842624) : 1 ≤ (Lib.decDigits u).length ∧ (Lib.decDigits u).length ≤ 16 := by
  rw [Lib.decDigits_length]
  exact ⟨Lib.nDigits_pos u, nDigits_le 15 u (by omega)⟩
theorem ntext_len (n : Int) : (ntext n).length ≤ 17 := by
  cases h : numOk n with
  | false => rw [ntext_out h]; simp
  | true =>
    have hb := inB_t h
    by_cases hn : n < 0
    · obtain ⟨u, rfl⟩ : ∃ u : Nat, n = -(u : Int) := ⟨n.natAbs, by omega⟩
      rw [ntext_neg (by omega) (by omega)]
      have := dec_len16 (u := u) (by omega)
      simp; omega
    · obtain ⟨u, rfl⟩ : ∃ u : Nat, n = (u : Int) := ⟨n.toNat, by omega⟩
      rw [ntext_nn (by omega)]
      have := dec_len16 (u := u) (by omega)
      omega

set_option maxRecDepth 100000 in
set_option maxHeartbeats 1600000 in
theorem numText_spec (n : Int) (hi : -9223372036854775808 ≤ n ∧ n ≤ 9223372036854775807) (w : World) : Calls Tryz.prog 58 #[.int .i64 n] w fun e w' => e = .returned (.string (S (ntext n))) ∧ Below w.heap.size w w' := by
  cases h : numOk n with
  | false =>
    have hb := inB_f h
    have hr := Lib.hid (ntext_out h)
    by_cases h0 : n < -1125899906842624
    all_goals
      go_enter Tryz.func58, Tryz.ntmps58
      go_wp2
      go_ret
      exact ⟨by rw [hr.out]; rfl, Below.refl _ _⟩
  | true =>
    have hb := inB_t h
    by_cases hn : n < 0
    · obtain ⟨u, hu⟩ : ∃ u : Nat, u = n.natAbs := ⟨_, rfl⟩
      have hr : Hid (ntext n = 45 :: Lib.decDigits u) := by unfold Hid; rw [show n = -(u : Int) by omega]; exact ntext_neg (by omega) (by omega)
      have hd := dec_len16 (u := u) (by omega)
      have hd2 : (S (Lib.decDigits u)).size ≤ 16 := by have := hd.2; simpa [S, ByteArray.size] using this
      have hu2 : IntKind.i64.wrap (-n) = (u : Int) := by rw [IntKind.wrap_i64]; omega
      have hu3 : -n = (u : Int) := by omega
      have hf : Hid (({ data := #[45] } : ByteArray) ++ S (Lib.decDigits u) = S (ntext n)) := by unfold Hid; rw [hr.out, show ({ data := #[45] } : ByteArray) = S [45] from rfl, S_append]; rfl
      have hub : u ≤ 1125899906842624 := by omega
      have h45 : (({ data := #[45] } : ByteArray) ++ S (Lib.decDigits u)).size ≤ 17 := by rw [ByteArray.size_append]; show 1 + _ ≤ 17; omega
      have h46 : ({ data := #[45] } : ByteArray).size ≤ 1 := Nat.le_refl 1
      clear hu hd h
      go_enter Tryz.func58, Tryz.ntmps58
      go_wp2_with fail
      refine (numText_spec0 u hub _).mono ?_
      rintro e w1 ⟨rfl, b1⟩
      go_wp2
      trace_state
      go_ret
      exact ⟨by rw [← hf.out]; rfl, b1⟩
    · obtain ⟨u, rfl⟩ : ∃ u : Nat, n = (u : Int) := ⟨n.toNat, by omega⟩
      rw [ntext_nn (by omega)]
      exact numText_spec0 u (by omega) w

end Go.Proofs.YtafbdbefmlgioaaGreatDoor
