/- Is a number in a slice. -/
import Derived.Test.YtegnlijgjcfmlaaDoorInts
namespace Go.Proofs.YtegnlijgjcfmlaaDoor
open Go.RowKit
set_option linter.unusedVariables false
set_option linter.unusedSimpArgs false

def hasB (xs : List Int) (n : Int) : Bool := xs.any fun x => x == n
theorem hasB_snoc (xs : List Int) (x n : Int) : hasB (xs ++ [x]) n = (hasB xs n || x == n) := by simp [hasB, List.any_append]
theorem hasB_at {xs : List Int} {n : Int} {k : Nat} (h : xs[k]? = some n) : hasB xs n = true := by
  unfold hasB; rw [List.any_eq_true]; exact ⟨n, List.mem_of_getElem? h, by simp⟩

set_option maxHeartbeats 800000 in
theorem hasInt_impl (a : Option Addr) (len cap : Nat) (n : Int) (xs : List Int) (w : World) (hs : IS w w.heap.size a len xs) : Calls Tryd.prog 63 #[.slice a len cap, .int .i64 n] w fun e w' => e = .returned (.bool (hasB xs n)) ∧ w = w' := by
  have hl := hs.len
  go_enter Tryd.func63, Tryd.ntmps63
  go_wp2
  go_loop [6, 9] (fun _ i => ∃ k : Nat, k ≤ len ∧ i = .int .i64 k ∧ Hid (hasB (xs.take k) n = false)) (fun _ i => len - (intOf i).toNat)
  case atStart => exact ⟨0, Nat.zero_le _, rfl, rfl⟩
  case round =>
    obtain ⟨k, hk, rfl, ha⟩ := hrel
    by_cases hlt : k < len
    · obtain ⟨b, off, x, rfl, hb, hc, hbd, hx, hxs⟩ := hs.at_ hlt
      by_cases hxn : x = n
      · have Hn : Hid (hasB xs n = true) := hasB_at (by rw [hx.out, hxn])
        have hq : (x == n) = true := by simp [hxn]
        clear hxn
        go_wp2
        go_ret
        exact ⟨ret_bool (by rw [Hn.out]), rfl⟩
      · have hq : (x == n) = false := by simp [hxn]
        clear hxn
        go_wp2
        go_round
        case rel => exact ⟨k + 1, by omega, by go_num, by unfold Hid; rw [hxs.out, hasB_snoc, ha.out, hq]; rfl⟩
        case measure => simp [intOf]; omega
    · have hall := hs.all (k := k) (by omega)
      rw [hall] at ha
      clear hall
      go_wp2
      go_ret
      exact ⟨ret_bool (by rw [ha.out]), rfl⟩

set_option maxHeartbeats 800000 in
theorem hasInt_spec (a : Option Addr) (len cap : Nat) (n : Int) (xs : List Int) (w : World) (hs : IS w w.heap.size a len xs) : Calls Tryd.prog 104 #[.slice a len cap, .int .i64 n] w fun e w' => e = .returned (.bool (hasB xs n)) ∧ w = w' := by
  have hl := hs.len
  go_enter Tryd.func104, Tryd.ntmps104
  go_wp2
  go_loop [6, 9] (fun _ i => ∃ k : Nat, k ≤ len ∧ i = .int .i64 k ∧ Hid (hasB (xs.take k) n = false)) (fun _ i => len - (intOf i).toNat)
  case atStart => exact ⟨0, Nat.zero_le _, rfl, rfl⟩
  case round =>
    obtain ⟨k, hk, rfl, ha⟩ := hrel
    by_cases hlt : k < len
    · obtain ⟨b, off, x, rfl, hb, hc, hbd, hx, hxs⟩ := hs.at_ hlt
      by_cases hxn : x = n
      · have Hn : Hid (hasB xs n = true) := hasB_at (by rw [hx.out, hxn])
        have hq : (x == n) = true := by simp [hxn]
        clear hxn
        go_wp2
        go_ret
        exact ⟨ret_bool (by rw [Hn.out]), rfl⟩
      · have hq : (x == n) = false := by simp [hxn]
        clear hxn
        go_wp2
        go_round
        case rel => exact ⟨k + 1, by omega, by go_num, by unfold Hid; rw [hxs.out, hasB_snoc, ha.out, hq]; rfl⟩
        case measure => simp [intOf]; omega
    · have hall := hs.all (k := k) (by omega)
      rw [hall] at ha
      clear hall
      go_wp2
      go_ret
      exact ⟨ret_bool (by rw [ha.out]), rfl⟩

end Go.Proofs.YtegnlijgjcfmlaaDoor
