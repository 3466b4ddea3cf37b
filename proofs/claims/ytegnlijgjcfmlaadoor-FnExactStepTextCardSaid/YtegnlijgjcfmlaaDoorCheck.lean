/- The checksum: both functions fold (31 n + b) mod 9973 over the bytes. -/
import Derived.Test.YtegnlijgjcfmlaaDoorBase
namespace Go.Proofs.YtegnlijgjcfmlaaDoor
open Go.RowKit
set_option linter.unusedVariables false
set_option linter.unusedSimpArgs false

def chk (l : List UInt8) : Int := l.foldl (fun n b => (31 * n + (b.toNat : Int)) % 9973) 0
theorem chk_snoc (l : List UInt8) (c : UInt8) : chk (l ++ [c]) = (31 * chk l + (c.toNat : Int)) % 9973 := by
  simp [chk, List.foldl_append]
theorem chk_fold_bd (l : List UInt8) (a : Int) (h : 0 ≤ a ∧ a ≤ 9972) : 0 ≤ l.foldl (fun n b => (31 * n + (b.toNat : Int)) % 9973) a ∧ l.foldl (fun n b => (31 * n + (b.toNat : Int)) % 9973) a ≤ 9972 := by
  induction l generalizing a with
  | nil => exact h
  | cons x l ih => exact ih _ (by show 0 ≤ (31 * a + (x.toNat : Int)) % 9973 ∧ (31 * a + (x.toNat : Int)) % 9973 ≤ 9972; omega)
theorem chk_bd (l : List UInt8) : 0 ≤ chk l ∧ chk l ≤ 9972 := chk_fold_bd l 0 (by omega)

set_option maxHeartbeats 400000 in
theorem check_impl (s : ByteArray) (hs : s.size ≤ maxLen) (w : World) :
    Calls Tryd.prog 50 #[.string s] w fun e w' => e = .returned (.int .i64 (chk s.data.toList)) ∧ w = w' := by
  unfold maxLen at hs
  go_enter Tryd.func50, Tryd.ntmps50
  go_wp2
  go_loop [3, 4] (fun n i => ∃ k : Nat, k ≤ s.size ∧ i = .int .i64 k ∧ n = .int .i64 (chk (s.data.toList.take k))) (fun _ i => s.size - (intOf i).toNat)
  case atStart => exact ⟨0, Nat.zero_le _, rfl, rfl⟩
  case round =>
    obtain ⟨k, hk, rfl, rfl⟩ := hrel
    have hd := chk_bd (s.data.toList.take k)
    by_cases hlt : k < s.size
    · have H := Lib.hid (show chk (s.data.toList.take (k + 1)) = _ by rw [take_snoc s k hlt, chk_snoc])
      have hb := byte_bd s[k]
      go_wp2
      go_round
      case rel => exact ⟨k + 1, by omega, by go_num, val_int (by rw [H.out])⟩
      case measure => simp [intOf]; omega
    · go_wp2
      go_ret
      exact ⟨ret_int (by rw [take_all _ _ (by omega)]), rfl⟩

set_option maxHeartbeats 400000 in
theorem check_spec (s : ByteArray) (hs : s.size ≤ maxLen) (w : World) :
    Calls Tryd.prog 47 #[.string s] w fun e w' => e = .returned (.int .i64 (chk s.data.toList)) ∧ w = w' := by
  unfold maxLen at hs
  go_enter Tryd.func47, Tryd.ntmps47
  go_wp2
  go_loop [3, 4] (fun n i => ∃ k : Nat, k ≤ s.size ∧ i = .int .i64 k ∧ n = .int .i64 (chk (s.data.toList.take k))) (fun _ i => s.size - (intOf i).toNat)
  case atStart => exact ⟨0, Nat.zero_le _, rfl, rfl⟩
  case round =>
    obtain ⟨k, hk, rfl, rfl⟩ := hrel
    have hd := chk_bd (s.data.toList.take k)
    by_cases hlt : k < s.size
    · have H := Lib.hid (show chk (s.data.toList.take (k + 1)) = _ by rw [take_snoc s k hlt, chk_snoc])
      have hb := byte_bd s[k]
      go_wp2
      go_round
      case rel => exact ⟨k + 1, by omega, by go_num, val_int (by rw [H.out])⟩
      case measure => simp [intOf]; omega
    · go_wp2
      go_ret
      exact ⟨ret_int (by rw [take_all _ _ (by omega)]), rfl⟩
end Go.Proofs.YtegnlijgjcfmlaaDoor
