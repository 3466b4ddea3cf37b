/- The fee of a route. -/
import Derived.Test.YtegnlijgjcfmlaaDoorWRAmtsS
namespace Go.Proofs.YtegnlijgjcfmlaaDoor
open Go.RowKit
set_option linter.unusedVariables false
set_option linter.unusedSimpArgs false

set_option maxHeartbeats 1600000 in
theorem routeAmtsA_impl (a : Option Addr) (len cap : Nat) (a' : Option Addr) (len' cap' : Nat) (n : Int) (l : List Rd) (xs : List Int) (w : World) (S0 : RdS w w.heap.size a len l) (S1 : IS w w.heap.size a' len' xs) (hcap : len ≤ cap) :
    Calls Tryd.prog 43 #[.slice a len cap, .slice a' len' cap', .int .i64 n] w fun e w' => (∃ a c, e = .returned (.tuple #[.slice a (rAmtsS l xs n).length c, .bool (rOkS l xs n)]) ∧ OI w' w.heap.size a (rAmtsS l xs n).length c (rAmtsS l xs n)) ∧ Below w.heap.size w w' := by
  rcases Bool.eq_false_or_eq_true (roadsOk l) with h | h
  · rw [rAmtsS_t h, rOkS_t h]
    go_enter Tryd.func43, Tryd.ntmps43
    go_wp2_with fail
    refine (roadsOk_impl _ _ _ _ _ S0 hcap).mono ?_
    rintro e w1 ⟨rfl, b1⟩
    go_wp2_with fail
    refine (routeAmts_impl _ _ _ _ _ _ _ l xs _ (FS.keep S0 b1) (S1.keep b1)).mono ?_
    rintro e w2 ⟨⟨a2, c2, rfl, o2⟩, b2⟩
    go_wp2
    go_ret2
    exact ⟨⟨_, _, rfl, o2.le b1.size⟩, b1.trans (b2.mono b1.size)⟩
  · rw [rAmtsS_f h, rOkS_f h]
    go_enter Tryd.func43, Tryd.ntmps43
    go_wp2_with fail
    refine (roadsOk_impl _ _ _ _ _ S0 hcap).mono ?_
    rintro e w1 ⟨rfl, b1⟩
    go_wp2
    go_ret2
    exact ⟨⟨none, 0, rfl, OwnI.nil _ _, rfl, by simp⟩, b1⟩

noncomputable def rFeeS (l : List Rd) (xs : List Int) (n : Int) : Int := match rAmtsS l xs n with | [] => 0 | x :: _ => x - n
theorem rFeeS_f {l : List Rd} {xs : List Int} {n : Int} (h : rOkS l xs n = false) : rFeeS l xs n = 0 := by
  have : rAmtsS l xs n = [] := by
    by_cases h1 : roadsOk l = true
    · rw [rOkS_t h1] at h
      rw [rAmtsS_t h1]
      cases h2 : routeAmts l xs n with
      | none => exact (r_none h2).1
      | some L => rw [(r_some h2).2] at h; cases h
    · exact rAmtsS_f (Bool.eq_false_iff.2 h1)
  unfold rFeeS; rw [this]
theorem rFeeS_t {l : List Rd} {xs : List Int} {n : Int} (h : rOkS l xs n = true) : ∃ x L, rAmtsS l xs n = x :: L ∧ rFeeS l xs n = x - n ∧ (0 ≤ x ∧ x ≤ 1125899906842624) ∧ (0 ≤ n ∧ n ≤ 1125899906842624) := by
  have h1 : roadsOk l = true := by unfold rOkS at h; rw [Bool.and_eq_true] at h; exact h.1
  rw [rOkS_t h1] at h
  unfold rFeeS
  rw [rAmtsS_t h1]
  cases h2 : routeAmts l xs n with
  | none => rw [(r_none h2).2] at h; cases h
  | some L =>
    rw [(r_some h2).1]
    have h3 := routeAmts_out h2
    have hn : 0 ≤ n ∧ n ≤ 1125899906842624 := by
      unfold routeAmts at h2
      split at h2
      · rename_i h4; exact amtOk_t h4.2.1
      · cases h2
    cases L with
    | nil => simp at h3; omega
    | cons x L => exact ⟨x, L, rfl, rfl, h3.2.1 x List.mem_cons_self, hn⟩

set_option maxHeartbeats 1600000 in
theorem routeFee_spec (a : Option Addr) (len cap : Nat) (a' : Option Addr) (len' cap' : Nat) (n : Int) (l : List Rd) (xs : List Int) (w : World) (S0 : RdS w w.heap.size a len l) (S1 : IS w w.heap.size a' len' xs) :
    Calls Tryd.prog 82 #[.slice a len cap, .slice a' len' cap', .int .i64 n] w fun e w' => e = .returned (.tuple #[.int .i64 (rFeeS l xs n), .bool (rOkS l xs n)]) ∧ Below w.heap.size w w' := by
  have hll := rAmtsS_len l xs n
  rcases Bool.eq_false_or_eq_true (rOkS l xs n) with h | h
  · obtain ⟨x, L, hL, hF, hx, hn⟩ := rFeeS_t h
    rw [hF, h]
    go_enter Tryd.func82, Tryd.ntmps82
    go_wp2_with fail
    refine (routeAmts_spec _ _ _ _ _ _ _ l xs _ S0 S1).mono ?_
    rintro e w1 ⟨⟨a1, c1, rfl, o1⟩, b1⟩
    have i1 := o1.is
    obtain ⟨b, off, x', e1, hb, hc, hbd, hx', _⟩ := i1.at_ (k := 0) (by rw [hL]; simp)
    subst e1
    have hx2 := hx'.out
    rw [hL] at hx2
    obtain rfl : x = x' := by simpa using hx2
    have hlen : 1 ≤ (rAmtsS l xs n).length := by rw [hL]; simp
    simp only [Nat.add_zero] at hc
    have HL := Lib.hid hL
    have HF := Lib.hid hF
    clear hL hF hx' hx2 i1
    go_wp2
    go_ret2
    exact ⟨rfl, b1⟩
  · rw [rFeeS_f h, h]
    go_enter Tryd.func82, Tryd.ntmps82
    go_wp2_with fail
    refine (routeAmts_spec _ _ _ _ _ _ _ l xs _ S0 S1).mono ?_
    rintro e w1 ⟨⟨a1, c1, rfl, o1⟩, b1⟩
    go_wp2
    go_ret2
    exact ⟨rfl, b1⟩

set_option maxHeartbeats 1600000 in
theorem routeFee_impl (a : Option Addr) (len cap : Nat) (a' : Option Addr) (len' cap' : Nat) (n : Int) (l : List Rd) (xs : List Int) (w : World) (S0 : RdS w w.heap.size a len l) (S1 : IS w w.heap.size a' len' xs) (hcap : len ≤ cap) :
    Calls Tryd.prog 12 #[.slice a len cap, .slice a' len' cap', .int .i64 n] w fun e w' => e = .returned (.tuple #[.int .i64 (rFeeS l xs n), .bool (rOkS l xs n)]) ∧ Below w.heap.size w w' := by
  have hll := rAmtsS_len l xs n
  rcases Bool.eq_false_or_eq_true (rOkS l xs n) with h | h
  · obtain ⟨x, L, hL, hF, hx, hn⟩ := rFeeS_t h
    rw [hF, h]
    go_enter Tryd.func12, Tryd.ntmps12
    go_wp2_with fail
    refine (routeAmtsA_impl _ _ _ _ _ _ _ l xs _ S0 S1 hcap).mono ?_
    rintro e w1 ⟨⟨a1, c1, rfl, o1⟩, b1⟩
    have i1 := o1.is
    obtain ⟨b, off, x', e1, hb, hc, hbd, hx', _⟩ := i1.at_ (k := 0) (by rw [hL]; simp)
    subst e1
    have hx2 := hx'.out
    rw [hL] at hx2
    obtain rfl : x = x' := by simpa using hx2
    have hlen : 1 ≤ (rAmtsS l xs n).length := by rw [hL]; simp
    simp only [Nat.add_zero] at hc
    have HL := Lib.hid hL
    have HF := Lib.hid hF
    clear hL hF hx' hx2 i1
    go_wp2
    go_ret2
    exact ⟨rfl, b1⟩
  · rw [rFeeS_f h, h]
    go_enter Tryd.func12, Tryd.ntmps12
    go_wp2_with fail
    refine (routeAmtsA_impl _ _ _ _ _ _ _ l xs _ S0 S1 hcap).mono ?_
    rintro e w1 ⟨⟨a1, c1, rfl, o1⟩, b1⟩
    go_wp2
    go_ret2
    exact ⟨rfl, b1⟩

end Go.Proofs.YtegnlijgjcfmlaaDoor
