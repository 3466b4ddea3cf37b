/- Steps: the laws own functions. -/
import Derived.Test.YtegnlijgjcfmlaaDoorFlat
import Derived.Test.YtegnlijgjcfmlaaDoorHold
import Derived.Test.YtegnlijgjcfmlaaDoorStT
namespace Go.Proofs.YtegnlijgjcfmlaaDoor
open Go.RowKit
set_option linter.unusedVariables false
set_option linter.unusedSimpArgs false

theorem szIntS_any (a : Option Addr) (len cap : Nat) (n : Int) (w : World) (hl : len ≤ 9223372036854775807) (h0 : 0 ≤ n) (h1 : n ≤ 1048576) : Calls Tryd.prog 64 #[.slice a len cap, .int .i64 n] w fun e w' =>
    e = .returned (.int .i64 (if n - (len : Int) < 0 then -1 else n - len)) ∧ w = w' := by
  go_enter Tryd.func64, Tryd.ntmps64
  go_wp2
  all_goals
    go_ret
    exact ⟨by simp_all; try omega, rfl⟩

set_option maxRecDepth 100000 in
set_option maxHeartbeats 1600000 in
theorem szStep_any (kd k key ch too amt fee : Int) (yes : Bool) (a : Option Addr) (len cap : Nat) (lo hi st mn mx : Int) (n : Int) (w : World) (hl : len ≤ 9223372036854775807) (h0 : 0 ≤ n) (h1 : n ≤ 1048576) : Calls Tryd.prog 29 #[.agg #[.int .i64 kd, .int .i64 k, .int .i64 key, .int .i64 ch, .int .i64 too, .int .i64 amt, .int .i64 fee, .bool yes, .slice a len cap, .int .i64 lo, .int .i64 hi, .int .i64 st, .int .i64 mn, .int .i64 mx], .int .i64 n] w fun e w' =>
    e = .returned (.int .i64 (if n - (len : Int) < 0 then -1 else n - len)) ∧ Below w.heap.size w w' := by
  by_cases hn : n - (len : Int) < 0
  · rw [if_pos hn]
    go_enter Tryd.func29, Tryd.ntmps29
    go_wp2_with (go_at_call 64; refine (szIntS_any _ _ _ _ _ hl h0 h1).mono ?_; rintro e w1 ⟨rfl, rfl⟩; rw [if_pos hn])
    all_goals
      go_ret
      exact ⟨rfl, by (repeat (first | (with_reducible exact Below.refl _ _) | (with_reducible assumption) | (with_reducible refine Below.setCell ?_ ?side _; case side => first | (with_reducible exact Nat.le_refl _) | (simp; done) | (simp only [World.size_alloc, World.size_setCell, World.size_drew, World.heap_drewN] at *; omega)) | (with_reducible refine below_alloc ?_ _) | (with_reducible refine Below.drew ?_) | (with_reducible refine below_drewN ?_) | (with_reducible refine below_via (by assumption) ?_)))⟩
  · rw [if_neg hn]
    go_enter Tryd.func29, Tryd.ntmps29
    go_wp2_with (go_at_call 64; refine (szIntS_any _ _ _ _ _ hl h0 h1).mono ?_; rintro e w1 ⟨rfl, rfl⟩; rw [if_neg hn])
    all_goals
      go_ret
      exact ⟨rfl, by (repeat (first | (with_reducible exact Below.refl _ _) | (with_reducible assumption) | (with_reducible refine Below.setCell ?_ ?side _; case side => first | (with_reducible exact Nat.le_refl _) | (simp; done) | (simp only [World.size_alloc, World.size_setCell, World.size_drew, World.heap_drewN] at *; omega)) | (with_reducible refine below_alloc ?_ _) | (with_reducible refine Below.drew ?_) | (with_reducible refine below_drewN ?_) | (with_reducible refine below_via (by assumption) ?_)))⟩

set_option maxRecDepth 100000 in
set_option maxHeartbeats 1600000 in
theorem eqStep_any (kd k key ch too amt fee : Int) (yes : Bool) (a : Option Addr) (len cap : Nat) (lo hi st mn mx : Int) (a' : Option Addr) (cap' : Nat) (xs : List Int) (w : World) (S0 : IS w w.heap.size a len xs) (S1 : IS w w.heap.size a' len xs) : Calls Tryd.prog 33 #[.agg #[.int .i64 kd, .int .i64 k, .int .i64 key, .int .i64 ch, .int .i64 too, .int .i64 amt, .int .i64 fee, .bool yes, .slice a len cap, .int .i64 lo, .int .i64 hi, .int .i64 st, .int .i64 mn, .int .i64 mx], .agg #[.int .i64 kd, .int .i64 k, .int .i64 key, .int .i64 ch, .int .i64 too, .int .i64 amt, .int .i64 fee, .bool yes, .slice a' len cap', .int .i64 lo, .int .i64 hi, .int .i64 st, .int .i64 mn, .int .i64 mx]] w fun e w' =>
    e = .returned (.bool true) ∧ Below w.heap.size w w' := by
  go_enter Tryd.func33, Tryd.ntmps33
  go_wp2_with (((first | (go_at_call 73; refine (eqEvent_any _ _ _ _ _ _ _ _ _ _ _ _ _ _ _).mono ?_) | (go_at_call 16; refine (eqIntS_any _ _ _ _ _ _ _ _ _ (by (first | (with_reducible assumption) | (with_reducible exact OI.is (by assumption)) | (refine IS.keep (by with_reducible assumption) ?_; (repeat (first | (with_reducible assumption) | (with_reducible exact Below.refl _ _) | (with_reducible refine Below.setCell ?_ (by first | (simp; done) | (simp [*]; done)) _) | (with_reducible refine below_alloc ?_ _) | (with_reducible refine Below.drew ?_) | (with_reducible refine below_drewN ?_)))) | (refine OI.is (OI.keep (by with_reducible assumption) ?_); (repeat (first | (with_reducible assumption) | (with_reducible exact Below.refl _ _) | (with_reducible refine Below.setCell ?_ (by first | (simp; done) | (simp [*]; done)) _) | (with_reducible refine below_alloc ?_ _) | (with_reducible refine Below.drew ?_) | (with_reducible refine below_drewN ?_)))))) (by (first | (with_reducible assumption) | (with_reducible exact OI.is (by assumption)) | (refine IS.keep (by with_reducible assumption) ?_; (repeat (first | (with_reducible assumption) | (with_reducible exact Below.refl _ _) | (with_reducible refine Below.setCell ?_ (by first | (simp; done) | (simp [*]; done)) _) | (with_reducible refine below_alloc ?_ _) | (with_reducible refine Below.drew ?_) | (with_reducible refine below_drewN ?_)))) | (refine OI.is (OI.keep (by with_reducible assumption) ?_); (repeat (first | (with_reducible assumption) | (with_reducible exact Below.refl _ _) | (with_reducible refine Below.setCell ?_ (by first | (simp; done) | (simp [*]; done)) _) | (with_reducible refine below_alloc ?_ _) | (with_reducible refine Below.drew ?_) | (with_reducible refine below_drewN ?_))))))).mono ?_) | (go_at_call 74; refine (eqRule_any _ _ _ _ _ _ _ _ _ _ _).mono ?_)); (rintro e w1 ⟨rfl, hb⟩; (try (replace H0 := below_upd H0 hb (by (repeat (first | (with_reducible assumption) | (with_reducible exact Below.refl _ _) | (with_reducible refine Below.setCell ?_ (by first | (simp; done) | (simp [*]; done)) _) | (with_reducible refine below_alloc ?_ _) | (with_reducible refine Below.drew ?_) | (with_reducible refine below_drewN ?_)))); clear hc0 hf0 hs0 hz0; obtain ⟨hc0, hf0, hs0, hz0⟩ := brules H0)); (try (replace H1 := below_upd H1 hb (by (repeat (first | (with_reducible assumption) | (with_reducible exact Below.refl _ _) | (with_reducible refine Below.setCell ?_ (by first | (simp; done) | (simp [*]; done)) _) | (with_reducible refine below_alloc ?_ _) | (with_reducible refine Below.drew ?_) | (with_reducible refine below_drewN ?_)))); clear hc1 hf1 hs1 hz1; obtain ⟨hc1, hf1, hs1, hz1⟩ := brules H1)); (try (replace H2 := below_upd H2 hb (by (repeat (first | (with_reducible assumption) | (with_reducible exact Below.refl _ _) | (with_reducible refine Below.setCell ?_ (by first | (simp; done) | (simp [*]; done)) _) | (with_reducible refine below_alloc ?_ _) | (with_reducible refine Below.drew ?_) | (with_reducible refine below_drewN ?_)))); clear hc2 hf2 hs2 hz2; obtain ⟨hc2, hf2, hs2, hz2⟩ := brules H2)); (try replace S0 := S0.keep (below_via hb (by (repeat (first | (with_reducible assumption) | (with_reducible exact Below.refl _ _) | (with_reducible refine Below.setCell ?_ (by first | (simp; done) | (simp [*]; done)) _) | (with_reducible refine below_alloc ?_ _) | (with_reducible refine Below.drew ?_) | (with_reducible refine below_drewN ?_)))))); (try replace S1 := S1.keep (below_via hb (by (repeat (first | (with_reducible assumption) | (with_reducible exact Below.refl _ _) | (with_reducible refine Below.setCell ?_ (by first | (simp; done) | (simp [*]; done)) _) | (with_reducible refine below_alloc ?_ _) | (with_reducible refine Below.drew ?_) | (with_reducible refine below_drewN ?_)))))); (try replace S2 := S2.keep (below_via hb (by (repeat (first | (with_reducible assumption) | (with_reducible exact Below.refl _ _) | (with_reducible refine Below.setCell ?_ (by first | (simp; done) | (simp [*]; done)) _) | (with_reducible refine below_alloc ?_ _) | (with_reducible refine Below.drew ?_) | (with_reducible refine below_drewN ?_)))))); (try replace S3 := S3.keep (below_via hb (by (repeat (first | (with_reducible assumption) | (with_reducible exact Below.refl _ _) | (with_reducible refine Below.setCell ?_ (by first | (simp; done) | (simp [*]; done)) _) | (with_reducible refine below_alloc ?_ _) | (with_reducible refine Below.drew ?_) | (with_reducible refine below_drewN ?_)))))); (first | ((fail_if_success (have ht := H0)); have H0 := hb; obtain ⟨hc0, hf0, hs0, hz0⟩ := brules H0) | ((fail_if_success (have ht := H1)); have H1 := hb; obtain ⟨hc1, hf1, hs1, hz1⟩ := brules H1) | ((fail_if_success (have ht := H2)); have H2 := hb; obtain ⟨hc2, hf2, hs2, hz2⟩ := brules H2) | skip))))
  all_goals
    go_ret
    exact ⟨ret_bool (by simp_all), by (repeat (first | (with_reducible exact Below.refl _ _) | (with_reducible assumption) | (with_reducible refine Below.setCell ?_ ?side _; case side => first | (with_reducible exact Nat.le_refl _) | (simp; done) | (simp only [World.size_alloc, World.size_setCell, World.size_drew, World.heap_drewN] at *; omega)) | (with_reducible refine below_alloc ?_ _) | (with_reducible refine Below.drew ?_) | (with_reducible refine below_drewN ?_) | (with_reducible refine below_via (by assumption) ?_)))⟩

end Go.Proofs.YtegnlijgjcfmlaaDoor
