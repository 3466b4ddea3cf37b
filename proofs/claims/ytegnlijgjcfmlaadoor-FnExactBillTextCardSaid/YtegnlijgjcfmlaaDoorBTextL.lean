/- The law on the text of a bill walked. -/
import Derived.Test.YtegnlijgjcfmlaaDoorBTextS
import Derived.Test.YtegnlijgjcfmlaaDoorWBill
namespace Go.Proofs.YtegnlijgjcfmlaaDoor
open Go.RowKit
set_option linter.unusedVariables false
set_option linter.unusedSimpArgs false

set_option maxRecDepth 100000 in
set_option maxHeartbeats 1600000 in
theorem walk_FnExactBillText (i : Int) (_ : (Lit.int .i64 i).wf = true) (p : Int) (_ : (Lit.int .i64 p).wf = true) (a : Int) (_ : (Lit.int .i64 a).wf = true) (m : Int) (_ : (Lit.int .i64 m).wf = true) (d : Int) (_ : (Lit.int .i64 d).wf = true) (s : ByteArray) (hs : s.size ≤ maxLen) (w : World) (T0 : Pow w) :
    Calls Tryd.prog 5 #[.agg #[.int .i64 i, .int .i64 p, .int .i64 a, .int .i64 m, .int .i64 d, .string s]] w fun e w' => e = .returned (.bool true) ∧ Below w.heap.size w w' := by
  have hs2 : s.size ≤ 9223372036854775807 := by unfold maxLen at hs; omega
  clear hs
  by_cases h : (1048576 : Int) - (s.size : Int) < 0
  · go_enter Tryd.func5, Tryd.ntmps5
    go_wp2_with (((first | (go_at_call 17; refine (szBill_any _ _ _ _ _ _ _ _ (by assumption) (by omega) (by omega)).mono ?_) | (go_at_call 19; refine (toBill_any _ _ _ _ _ _ _).mono ?_)); (rintro e w1 ⟨rfl, hb⟩; (try (replace H0 := below_upd H0 hb (by (repeat (first | (with_reducible assumption) | (with_reducible exact Below.refl _ _) | (with_reducible refine Below.setCell ?_ (by first | (simp; done) | (simp [*]; done)) _) | (with_reducible refine below_alloc ?_ _) | (with_reducible refine Below.drew ?_) | (with_reducible refine below_drewN ?_)))); clear hc0 hf0 hs0 hz0; obtain ⟨hc0, hf0, hs0, hz0⟩ := brules H0)); (try (replace H1 := below_upd H1 hb (by (repeat (first | (with_reducible assumption) | (with_reducible exact Below.refl _ _) | (with_reducible refine Below.setCell ?_ (by first | (simp; done) | (simp [*]; done)) _) | (with_reducible refine below_alloc ?_ _) | (with_reducible refine Below.drew ?_) | (with_reducible refine below_drewN ?_)))); clear hc1 hf1 hs1 hz1; obtain ⟨hc1, hf1, hs1, hz1⟩ := brules H1)); (try (replace H2 := below_upd H2 hb (by (repeat (first | (with_reducible assumption) | (with_reducible exact Below.refl _ _) | (with_reducible refine Below.setCell ?_ (by first | (simp; done) | (simp [*]; done)) _) | (with_reducible refine below_alloc ?_ _) | (with_reducible refine Below.drew ?_) | (with_reducible refine below_drewN ?_)))); clear hc2 hf2 hs2 hz2; obtain ⟨hc2, hf2, hs2, hz2⟩ := brules H2)); (try replace S0 := S0.keep (below_via hb (by (repeat (first | (with_reducible assumption) | (with_reducible exact Below.refl _ _) | (with_reducible refine Below.setCell ?_ (by first | (simp; done) | (simp [*]; done)) _) | (with_reducible refine below_alloc ?_ _) | (with_reducible refine Below.drew ?_) | (with_reducible refine below_drewN ?_)))))); (try replace S1 := S1.keep (below_via hb (by (repeat (first | (with_reducible assumption) | (with_reducible exact Below.refl _ _) | (with_reducible refine Below.setCell ?_ (by first | (simp; done) | (simp [*]; done)) _) | (with_reducible refine below_alloc ?_ _) | (with_reducible refine Below.drew ?_) | (with_reducible refine below_drewN ?_)))))); (try replace S2 := S2.keep (below_via hb (by (repeat (first | (with_reducible assumption) | (with_reducible exact Below.refl _ _) | (with_reducible refine Below.setCell ?_ (by first | (simp; done) | (simp [*]; done)) _) | (with_reducible refine below_alloc ?_ _) | (with_reducible refine Below.drew ?_) | (with_reducible refine below_drewN ?_)))))); (try replace S3 := S3.keep (below_via hb (by (repeat (first | (with_reducible assumption) | (with_reducible exact Below.refl _ _) | (with_reducible refine Below.setCell ?_ (by first | (simp; done) | (simp [*]; done)) _) | (with_reducible refine below_alloc ?_ _) | (with_reducible refine Below.drew ?_) | (with_reducible refine below_drewN ?_)))))); (first | ((fail_if_success (have ht := H0)); have H0 := hb; obtain ⟨hc0, hf0, hs0, hz0⟩ := brules H0) | ((fail_if_success (have ht := H1)); have H1 := hb; obtain ⟨hc1, hf1, hs1, hz1⟩ := brules H1) | ((fail_if_success (have ht := H2)); have H2 := hb; obtain ⟨hc2, hf2, hs2, hz2⟩ := brules H2) | skip))))
    go_ret
    exact ⟨rfl, by (repeat (first | (with_reducible exact Below.refl _ _) | (with_reducible assumption) | (with_reducible refine Below.setCell ?_ ?side _; case side => first | (with_reducible exact Nat.le_refl _) | (simp; done) | (simp only [World.size_alloc, World.size_setCell, World.size_drew, World.heap_drewN] at *; omega)) | (with_reducible refine below_alloc ?_ _) | (with_reducible refine Below.drew ?_) | (with_reducible refine below_drewN ?_) | (with_reducible refine below_via (by assumption) ?_)))⟩
  · have hs : s.size ≤ 1048576 := by omega
    go_enter Tryd.func5, Tryd.ntmps5
    go_wp2_with fail
    refine (szBill_any _ _ _ _ _ _ _ _ hs2 (by omega) (by omega)).mono ?_
    rintro e w1 ⟨rfl, b1⟩
    obtain ⟨hc0, hf0, hs0, hz0⟩ := brules b1
    have B1 := below_via b1 (below_alloc (Below.refl w.heap.size w) (.cells #[.int .i64 i, .int .i64 p, .int .i64 a, .int .i64 m, .int .i64 d, .string s] 39))
    go_wp2_with fail
    refine (toBill_any _ _ _ _ _ _ _).mono ?_
    rintro e w2 ⟨rfl, b2⟩
    have B2 := below_via b2 B1
    go_wp2_with fail
    refine (billText_spec _ _ _ _ _ _ _ hs).mono ?_
    rintro e w3 ⟨rfl, b3⟩
    have B3 := below_via b3 B2
    have c13 := b2.trans (b3.mono b2.size)
    obtain ⟨hc1, hf1, hs1, hz1⟩ := brules c13
    go_wp2_with fail
    refine (toBill_any _ _ _ _ _ _ _).mono ?_
    rintro e w4 ⟨rfl, b4⟩
    have B4 := below_via b4 B3
    go_wp2_with fail
    refine (billText_impl _ _ _ _ _ _ _ hs (T0.keep B4)).mono ?_
    rintro e w5 ⟨rfl, b5⟩
    go_wp2
    go_ret
    exact ⟨rfl, below_via b5 B4⟩

end Go.Proofs.YtegnlijgjcfmlaaDoor
