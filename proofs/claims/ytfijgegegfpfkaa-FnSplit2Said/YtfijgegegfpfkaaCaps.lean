/- Capacities: the tests. -/
import Derived.Test.YtfijgegegfpfkaaPSum
namespace Go.Proofs.Ytfijgegegfpfkaa
open Go.RowKit
set_option linter.unusedVariables false
set_option linter.unusedSimpArgs false

def capsOk (n : Int) (cs : List Int) : Bool := allAmt cs && amtOk n && decide (cs.length ≤ 40)
def capsOk0 (cs : List Int) : Bool := allAmt cs && decide (cs.length ≤ 40)
theorem capsOk_t {n : Int} {cs : List Int} (h : capsOk n cs = true) : allAmt cs = true ∧ amtOk n = true ∧ cs.length ≤ 40 := by simpa [capsOk, and_assoc] using h
theorem capsOk_0 (n : Int) (cs : List Int) : capsOk n cs = (amtOk n && capsOk0 cs) := by
  unfold capsOk capsOk0
  cases allAmt cs <;> cases amtOk n <;> simp
theorem allAmt_get {xs : List Int} (h : allAmt xs = true) {k : Nat} {x : Int} (hx : xs[k]? = some x) : 0 ≤ x ∧ x ≤ 1125899906842624 := by
  unfold allAmt at h
  rw [List.all_eq_true] at h
  exact amtOk_t (h x (List.mem_of_getElem? hx))

set_option maxHeartbeats 800000 in
theorem capsOk_impl (n : Int) (a : Option Addr) (len cap : Nat) (xs : List Int) (w : World) (hs : IS w w.heap.size a len xs) : Calls Try.prog 21 #[.int .i64 n, .slice a len cap] w fun e w' => e = .returned (.bool (capsOk n xs)) ∧ w = w' := by
  have hl := hs.len
  have Hln := Lib.hid hs.1
  go_enter Try.func21, Try.ntmps21
  go_wp2
  go_loop [6, 9] (fun _ i => ∃ k : Nat, k ≤ len ∧ i = .int .i64 k ∧ Hid (allAmt (xs.take k) = true)) (fun _ i => len - (intOf i).toNat)
  case atStart => exact ⟨0, Nat.zero_le _, rfl, rfl⟩
  case round =>
    obtain ⟨k, hk, rfl, ha⟩ := hrel
    by_cases hlt : k < len
    · obtain ⟨b, off, x, rfl, hb, hc, hbd, hx, hxs⟩ := hs.at_ hlt
      by_cases hx1 : amtOk x = true
      · go_wp2_with (((go_at_call 29; refine (amtOk_impl _ _).mono ?_); rintro e w1 ⟨rfl, rfl⟩))
        go_round
        case rel => exact ⟨k + 1, by omega, by go_num, by unfold Hid; rw [hxs.out]; exact allAmt_snoc ha.out hx1⟩
        case measure => simp [intOf]; omega
      · have Hn := Lib.hid (allAmt_bad hx.out (by simpa using hx1))
        go_wp2_with (((go_at_call 29; refine (amtOk_impl _ _).mono ?_); rintro e w1 ⟨rfl, rfl⟩))
        go_ret
        exact ⟨ret_bool (by simp [capsOk, Hn.out]), rfl⟩
    · have hall := hs.all (k := k) (by omega)
      rw [hall] at ha
      clear hall
      by_cases h40 : len ≤ 40
      · by_cases hn : amtOk n = true
        all_goals
          go_wp2_with (((go_at_call 29; refine (amtOk_impl _ _).mono ?_); rintro e w1 ⟨rfl, rfl⟩))
          go_ret
          exact ⟨ret_bool (by simp [capsOk, ha.out, Hln.out, hn, h40] <;> omega), rfl⟩
      · by_cases hn : amtOk n = true
        all_goals
          go_wp2_with (((go_at_call 29; refine (amtOk_impl _ _).mono ?_); rintro e w1 ⟨rfl, rfl⟩))
          go_ret
          exact ⟨ret_bool (by simp [capsOk, ha.out, Hln.out, hn] <;> omega), rfl⟩

set_option maxHeartbeats 800000 in
theorem capsOk_spec (a : Option Addr) (len cap : Nat) (xs : List Int) (w : World) (hs : IS w w.heap.size a len xs) : Calls Try.prog 18 #[.slice a len cap] w fun e w' => e = .returned (.bool (capsOk0 xs)) ∧ w = w' := by
  have hl := hs.len
  have Hln := Lib.hid hs.1
  go_enter Try.func18, Try.ntmps18
  go_wp2
  go_loop [4, 7] (fun _ i => ∃ k : Nat, k ≤ len ∧ i = .int .i64 k ∧ Hid (allAmt (xs.take k) = true)) (fun _ i => len - (intOf i).toNat)
  case atStart => exact ⟨0, Nat.zero_le _, rfl, rfl⟩
  case round =>
    obtain ⟨k, hk, rfl, ha⟩ := hrel
    by_cases hlt : k < len
    · obtain ⟨b, off, x, rfl, hb, hc, hbd, hx, hxs⟩ := hs.at_ hlt
      by_cases hx1 : amtOk x = true
      · go_wp2_with (((go_at_call 17; refine (amtOk_spec _ _).mono ?_); rintro e w1 ⟨rfl, rfl⟩))
        go_round
        case rel => exact ⟨k + 1, by omega, by go_num, by unfold Hid; rw [hxs.out]; exact allAmt_snoc ha.out hx1⟩
        case measure => simp [intOf]; omega
      · have Hn := Lib.hid (allAmt_bad hx.out (by simpa using hx1))
        go_wp2_with (((go_at_call 17; refine (amtOk_spec _ _).mono ?_); rintro e w1 ⟨rfl, rfl⟩))
        go_ret
        exact ⟨ret_bool (by simp [capsOk0, Hn.out]), rfl⟩
    · have hall := hs.all (k := k) (by omega)
      rw [hall] at ha
      clear hall
      by_cases h40 : len ≤ 40
      all_goals
        go_wp2_with (((go_at_call 17; refine (amtOk_spec _ _).mono ?_); rintro e w1 ⟨rfl, rfl⟩))
        go_ret
        exact ⟨ret_bool (by simp [capsOk0, ha.out, Hln.out] <;> omega), rfl⟩

end Go.Proofs.Ytfijgegegfpfkaa
