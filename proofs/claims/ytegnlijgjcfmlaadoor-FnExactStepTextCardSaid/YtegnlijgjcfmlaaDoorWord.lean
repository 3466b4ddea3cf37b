/- Words: 1 to 8 lowercase letters. -/
import Derived.Test.YtegnlijgjcfmlaaDoorAmt
namespace Go.Proofs.YtegnlijgjcfmlaaDoor
open Go.RowKit
set_option linter.unusedVariables false
set_option linter.unusedSimpArgs false

def lowB (b : UInt8) : Bool := decide (97 ≤ (b.toNat : Int) ∧ (b.toNat : Int) ≤ 122)
def wordOk (l : List UInt8) : Bool := decide (1 ≤ l.length ∧ l.length ≤ 8) && l.all lowB
theorem all_snoc (l : List UInt8) (c : UInt8) (h : l.all lowB = true) (hc : 97 ≤ (c.toNat : Int) ∧ (c.toNat : Int) ≤ 122) : (l ++ [c]).all lowB = true := by
  simp [List.all_append, h, lowB, hc.1, hc.2] <;> omega
theorem all_bad (s : ByteArray) (k : Nat) (h : k < s.size) (hc : (s[k].toNat : Int) < 97 ∨ 122 < (s[k].toNat : Int)) : s.data.toList.all lowB = false := by
  rw [List.all_eq_false]
  refine ⟨s[k], ?_, ?_⟩
  · show s.data[k] ∈ _
    simp
  · unfold lowB
    exact Bool.eq_false_iff.1 (decide_eq_false (by omega))

set_option maxHeartbeats 400000 in
theorem wordOk_impl (s : ByteArray) (w : World) (hs : s.size ≤ 9223372036854775807) : Calls Tryd.prog 91 #[.string s] w fun e w' => e = .returned (.bool (wordOk s.data.toList)) ∧ w = w' := by
  have hl : s.data.toList.length = s.size := by simp
  have Hl := Lib.hid hl; clear hl
  by_cases hb : inB s.size 1 8 = true
  · have hb2 := inB_t hb
    go_enter Tryd.func91, Tryd.ntmps91
    go_wp2_with (((go_at_call 39; refine (in_impl _ _ _ _).mono ?_); rintro e w1 ⟨rfl, rfl⟩))
    go_loop [3] (fun i => ∃ k : Nat, k ≤ s.size ∧ i = .int .i64 k ∧ Hid ((s.data.toList.take k).all lowB = true)) (fun i => s.size - (intOf i).toNat)
    case atStart => exact ⟨0, Nat.zero_le _, rfl, by simp [Hid]⟩
    case round =>
      obtain ⟨k, hk, rfl, ha⟩ := hrel
      by_cases hlt : k < s.size
      · have hbd := byte_bd s[k]
        have Hbad := all_bad s k hlt
        have Hts := Lib.hid (take_snoc s k hlt)
        go_wp2
        all_goals first
          | (go_round
             case rel => exact ⟨k + 1, by omega, by go_num, by unfold Hid; rw [Hts.out]; exact all_snoc _ _ ha.out (by omega)⟩
             case measure => simp [intOf]; omega)
          | (go_ret; exact ⟨ret_bool (by rw [wordOk, all_bad s k hlt (by omega)]; simp), rfl⟩)
      · go_wp2
        go_ret
        exact ⟨ret_bool (by rw [take_all _ _ (by omega)] at ha; rw [wordOk, ha.out, Bool.and_true, Hl.out]; exact tt (by omega)), rfl⟩
  · go_enter Tryd.func91, Tryd.ntmps91
    go_wp2_with (((go_at_call 39; refine (in_impl _ _ _ _).mono ?_); rintro e w1 ⟨rfl, rfl⟩))
    go_ret
    exact ⟨ret_bool (by simp [inB] at hb; simp [wordOk, Hl.out]; omega), rfl⟩

set_option maxHeartbeats 400000 in
theorem wordOk_spec (s : ByteArray) (w : World) (hs : s.size ≤ 9223372036854775807) : Calls Tryd.prog 59 #[.string s] w fun e w' => e = .returned (.bool (wordOk s.data.toList)) ∧ w = w' := by
  have hl : s.data.toList.length = s.size := by simp
  have Hl := Lib.hid hl; clear hl
  go_enter Tryd.func59, Tryd.ntmps59
  go_wp2_with (fail)
  go_loop [3] (fun i => ∃ k : Nat, k ≤ s.size ∧ i = .int .i64 k ∧ Hid ((s.data.toList.take k).all lowB = true)) (fun i => s.size - (intOf i).toNat)
  case atStart => exact ⟨0, Nat.zero_le _, rfl, by simp [Hid]⟩
  case round =>
    obtain ⟨k, hk, rfl, ha⟩ := hrel
    by_cases hlt : k < s.size
    · have hbd := byte_bd s[k]
      have Hbad := Lib.hid (all_bad s k hlt)
      have Hts := Lib.hid (take_snoc s k hlt)
      go_wp2
      all_goals first
        | (go_round
           case rel => exact ⟨k + 1, by omega, by go_num, by unfold Hid; rw [Hts.out]; exact all_snoc _ _ ha.out (by omega)⟩
           case measure => simp [intOf]; omega)
        | (go_ret; exact ⟨ret_bool (by rw [wordOk, Hbad.out (by omega)]; simp), rfl⟩)
    · go_wp2
      all_goals
        go_ret
        exact ⟨ret_bool (by rw [take_all _ _ (by omega)] at ha; rw [wordOk, ha.out, Bool.and_true, Hl.out]; first | exact tt (by omega) | exact ff (by omega) | exact dd (by omega)), rfl⟩

end Go.Proofs.YtegnlijgjcfmlaaDoor
