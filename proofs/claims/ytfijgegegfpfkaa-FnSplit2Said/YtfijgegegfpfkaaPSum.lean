/- Parts: the sum. -/
import Derived.Test.YtfijgegegfpfkaaParts
namespace Go.Proofs.Ytfijgegegfpfkaa
open Go.RowKit
set_option linter.unusedVariables false
set_option linter.unusedSimpArgs false

theorem amtOk_t' {n : Int} (h : 0 ≤ n) (h' : n ≤ 1125899906842624) : amtOk n = true := decide_eq_true ⟨h, h'⟩
theorem amtOk_f' {n : Int} (h : 1125899906842624 < n) : amtOk n = false := decide_eq_false (by omega)

set_option maxHeartbeats 1600000 in
theorem partsSum_impl (a : Option Addr) (len cap : Nat) (xs : List Int) (w : World) (hs : IS w w.heap.size a len xs) : Calls Try.prog 14 #[.slice a len cap] w fun e w' =>
    e = .returned (if sumOk xs = true then .tuple #[.int .i64 xs.sum, .bool true] else .tuple #[.int .i64 0, .bool false]) ∧ w = w' := by
  have hl := hs.len
  obtain ⟨v, hv⟩ : ∃ v : Value, (if sumOk xs = true then Value.tuple #[.int .i64 xs.sum, .bool true] else .tuple #[.int .i64 0, .bool false]) = v := ⟨_, rfl⟩
  rw [hv]
  have Hv := Lib.hid hv; clear hv
  go_enter Try.func14, Try.ntmps14
  go_wp2
  go_loop [4, 6, 9] (fun c _ i => ∃ (k : Nat) (s : Int), k ≤ len ∧ i = .int .i64 k ∧ c = .int .i64 s ∧ 0 ≤ s ∧ s ≤ 2251799813685248 ∧ Hid (allAmt (xs.take k) = true) ∧ Hid (s ≤ 1125899906842624 → s = (xs.take k).sum) ∧ Hid (1125899906842624 < s → ∃ j, 1125899906842624 < (xs.take j).sum)) (fun _ _ i => len - (intOf i).toNat)
  case atStart => exact ⟨0, 0, Nat.zero_le _, rfl, rfl, by omega, by omega, rfl, fun _ => rfl, fun h => by omega⟩
  case round =>
    obtain ⟨k, s, hk, rfl, rfl, h0, h1, ha, hsum, hover⟩ := hrel
    by_cases hlt : k < len
    · obtain ⟨b, off, x, rfl, hb, hc, hbd, hx, hxs⟩ := hs.at_ hlt
      by_cases hx1 : amtOk x = true
      · have hx2 := amtOk_t hx1
        by_cases hle : s ≤ 1125899906842624
        · go_wp2_with (((first | (go_at_call 29; refine (amtOk_impl _ _).mono ?_) | (go_at_call 30; refine (amt_impl _ _).mono ?_)); rintro e w1 ⟨rfl, rfl⟩))
          go_round
          case rel =>
            have e1 : s + x = (xs.take (k + 1)).sum := by rw [hxs.out, sum_snoc, ← hsum.out hle]
            exact ⟨k + 1, s + x, by omega, by go_num, rfl, by omega, by omega, by unfold Hid; rw [hxs.out]; exact allAmt_snoc ha.out hx1, fun _ => e1, fun h => ⟨k + 1, by omega⟩⟩
          case measure => simp [intOf]; omega
        · go_wp2_with (((first | (go_at_call 29; refine (amtOk_impl _ _).mono ?_) | (go_at_call 30; refine (amt_impl _ _).mono ?_)); rintro e w1 ⟨rfl, rfl⟩))
          go_round
          case rel => exact ⟨k + 1, s, by omega, by go_num, rfl, by omega, by omega, by unfold Hid; rw [hxs.out]; exact allAmt_snoc ha.out hx1, fun h => absurd h (by omega), hover⟩
          case measure => simp [intOf]; omega
      · have hn : sumOk xs = false := by simp [sumOk, allAmt_bad hx.out (by simpa using hx1)]
        have Hn := Lib.hid hn; clear hn
        go_wp2_with (((first | (go_at_call 29; refine (amtOk_impl _ _).mono ?_) | (go_at_call 30; refine (amt_impl _ _).mono ?_)); rintro e w1 ⟨rfl, rfl⟩))
        go_ret2
        exact ⟨by rw [← Hv.out, Hn.out]; rfl, rfl⟩
    · have hall := hs.all (k := k) (by omega)
      have Hall := Lib.hid hall; clear hall
      by_cases hle : s ≤ 1125899906842624
      · have hy := amtOk_t' h0 hle
        go_wp2_with (((first | (go_at_call 29; refine (amtOk_impl _ _).mono ?_) | (go_at_call 30; refine (amt_impl _ _).mono ?_)); rintro e w1 ⟨rfl, rfl⟩))
        go_ret2
        have e2 := hsum.out hle
        have e3 := ha.out
        rw [Hall.out] at e2 e3
        exact ⟨by rw [← Hv.out, sumOk, e3]; simp only [Bool.true_and]; rw [← e2, if_pos (decide_eq_true hle)]; rfl, rfl⟩
      · have hy := amtOk_f' (show 1125899906842624 < s by omega)
        go_wp2_with (((first | (go_at_call 29; refine (amtOk_impl _ _).mono ?_) | (go_at_call 30; refine (amt_impl _ _).mono ?_)); rintro e w1 ⟨rfl, rfl⟩))
        go_ret2
        obtain ⟨j, hj⟩ := hover.out (by omega)
        exact ⟨by rw [← Hv.out, sumOk_over hj]; rfl, rfl⟩

end Go.Proofs.Ytfijgegegfpfkaa
