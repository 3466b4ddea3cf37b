/- The law on the text of a step walked. -/
import Derived.Test.YtegnlijgjcfmlaaDoorStM
import Derived.Test.YtegnlijgjcfmlaaDoorStJ
import Derived.Deep.RegionWith
namespace Go.Proofs.YtegnlijgjcfmlaaDoor
open Go.RowKit
set_option linter.unusedVariables false
set_option linter.unusedSimpArgs false

set_option maxRecDepth 100000 in
set_option maxHeartbeats 3200000 in
theorem walk_FnExactStepText (kd : Int) (_ : (Lit.int .i64 kd).wf = true) (k : Int) (_ : (Lit.int .i64 k).wf = true) (key : Int) (_ : (Lit.int .i64 key).wf = true) (ch : Int) (_ : (Lit.int .i64 ch).wf = true) (too : Int) (_ : (Lit.int .i64 too).wf = true) (amt : Int) (_ : (Lit.int .i64 amt).wf = true) (fee : Int) (_ : (Lit.int .i64 fee).wf = true) (yes : Bool) (a : Option Addr) (len cap : Nat) (xs : List Int) (lo : Int) (_ : (Lit.int .i64 lo).wf = true) (hi : Int) (_ : (Lit.int .i64 hi).wf = true) (st : Int) (_ : (Lit.int .i64 st).wf = true) (mn : Int) (_ : (Lit.int .i64 mn).wf = true) (mx : Int) (_ : (Lit.int .i64 mx).wf = true) (w : World) (S0 : IS w w.heap.size a len xs) (T0 : PM w) : Calls Tryd.prog 8 #[.agg #[.int .i64 kd, .int .i64 k, .int .i64 key, .int .i64 ch, .int .i64 too, .int .i64 amt, .int .i64 fee, .bool yes, .slice a len cap, .int .i64 lo, .int .i64 hi, .int .i64 st, .int .i64 mn, .int .i64 mx]] w fun e w' => e = .returned (.bool true) ∧ Below w.heap.size w w' := by
  have hl := S0.len
  by_cases hlen : len ≤ 1048576
  · have hn : Hid (¬ ((1048576 : Int) - (len : Int) < 0)) := by unfold Hid; omega
    go_enter Tryd.func8, Tryd.ntmps8
    go_wp2_with fail
    refine (szStep_any _ _ _ _ _ _ _ _ _ _ _ _ _ _ _ _ _ _ hl (by omega) (by omega)).mono ?_
    rintro e w1 ⟨rfl, b1⟩
    rw [if_neg (show ¬ ((1048576 : Int) - (len : Int) < 0) by omega)]
    have B1 := below_via b1 (by (repeat (first | (with_reducible exact Below.refl _ _) | (with_reducible assumption) | (with_reducible refine Below.setCell ?_ ?side _; case side => first | (with_reducible exact Nat.le_refl _) | (simp; done) | (simp only [World.size_alloc, World.size_setCell, World.size_drew, World.heap_drewN] at *; omega)) | (with_reducible refine below_alloc ?_ _) | (with_reducible refine Below.drew ?_) | (with_reducible refine below_drewN ?_) | (with_reducible refine below_via (by assumption) ?_))) : Below w.heap.size w _)
    obtain ⟨hc0, hf0, hs0, hz0⟩ := brules b1
    go_wp2_with fail
    refine (toStep_any _ _ _ _ _ _ _ _ _ _ _ _ _ _ _ _ xs _ (S0.keep B1) hlen).mono ?_
    rintro e w2 ⟨⟨a2, c2, rfl, I2⟩, b2⟩
    have B2 := below_via b2 (by (repeat (first | (with_reducible exact Below.refl _ _) | (with_reducible assumption) | (with_reducible refine Below.setCell ?_ ?side _; case side => first | (with_reducible exact Nat.le_refl _) | (simp; done) | (simp only [World.size_alloc, World.size_setCell, World.size_drew, World.heap_drewN] at *; omega)) | (with_reducible refine below_alloc ?_ _) | (with_reducible refine Below.drew ?_) | (with_reducible refine below_drewN ?_) | (with_reducible refine below_via (by assumption) ?_))) : Below w.heap.size w _)
    go_wp2_with fail
    refine (stText_spec _ _ _ _ _ _ _ _ _ _ _ xs _ _ _ _ _ _ I2 hlen).mono ?_
    rintro e w3 ⟨rfl, b3⟩
    have B3 := below_via b3 B2
    have c3 := b2.trans (b3.mono b2.size)
    obtain ⟨hc1, hf1, hs1, hz1⟩ := brules c3
    go_wp2_with fail
    refine (toStep_any _ _ _ _ _ _ _ _ _ _ _ _ _ _ _ _ xs _ (S0.keep B3) hlen).mono ?_
    rintro e w4 ⟨⟨a4, c4, rfl, I4⟩, b4⟩
    have B4 := below_via b4 (by (repeat (first | (with_reducible exact Below.refl _ _) | (with_reducible assumption) | (with_reducible refine Below.setCell ?_ ?side _; case side => first | (with_reducible exact Nat.le_refl _) | (simp; done) | (simp only [World.size_alloc, World.size_setCell, World.size_drew, World.heap_drewN] at *; omega)) | (with_reducible refine below_alloc ?_ _) | (with_reducible refine Below.drew ?_) | (with_reducible refine below_drewN ?_) | (with_reducible refine below_via (by assumption) ?_))) : Below w.heap.size w _)
    have c4 := below_via b4 (below_via (W := w3) (by (repeat (first | (with_reducible exact Below.refl _ _) | (with_reducible assumption) | (with_reducible refine Below.setCell ?_ ?side _; case side => first | (with_reducible exact Nat.le_refl _) | (simp; done) | (simp only [World.size_alloc, World.size_setCell, World.size_drew, World.heap_drewN] at *; omega)) | (with_reducible refine below_alloc ?_ _) | (with_reducible refine Below.drew ?_) | (with_reducible refine below_drewN ?_) | (with_reducible refine below_via (by assumption) ?_)))) c3)
    clear hc1 hf1 hs1 hz1 c3
    obtain ⟨hc1, hf1, hs1, hz1⟩ := brules c4
    go_wp2_with fail
    refine (stText_impl _ _ _ _ _ _ _ _ _ _ _ xs _ _ _ _ _ _ (I4.keep (by (repeat (first | (with_reducible exact Below.refl _ _) | (with_reducible assumption) | (with_reducible refine Below.setCell ?_ ?side _; case side => first | (with_reducible exact Nat.le_refl _) | (simp; done) | (simp only [World.size_alloc, World.size_setCell, World.size_drew, World.heap_drewN] at *; omega)) | (with_reducible refine below_alloc ?_ _) | (with_reducible refine Below.drew ?_) | (with_reducible refine below_drewN ?_) | (with_reducible refine below_via (by assumption) ?_))))) (T0.keep (by (repeat (first | (with_reducible exact Below.refl _ _) | (with_reducible assumption) | (with_reducible refine Below.setCell ?_ ?side _; case side => first | (with_reducible exact Nat.le_refl _) | (simp; done) | (simp only [World.size_alloc, World.size_setCell, World.size_drew, World.heap_drewN] at *; omega)) | (with_reducible refine below_alloc ?_ _) | (with_reducible refine Below.drew ?_) | (with_reducible refine below_drewN ?_) | (with_reducible refine below_via (by assumption) ?_))))) hlen).mono ?_
    rintro e w5 ⟨rfl, b5⟩
    have B5 := below_via b5 (by (repeat (first | (with_reducible exact Below.refl _ _) | (with_reducible assumption) | (with_reducible refine Below.setCell ?_ ?side _; case side => first | (with_reducible exact Nat.le_refl _) | (simp; done) | (simp only [World.size_alloc, World.size_setCell, World.size_drew, World.heap_drewN] at *; omega)) | (with_reducible refine below_alloc ?_ _) | (with_reducible refine Below.drew ?_) | (with_reducible refine below_drewN ?_) | (with_reducible refine below_via (by assumption) ?_))) : Below w.heap.size w _)
    have c5 := below_via b5 (below_via (W := w4) (by (repeat (first | (with_reducible exact Below.refl _ _) | (with_reducible assumption) | (with_reducible refine Below.setCell ?_ ?side _; case side => first | (with_reducible exact Nat.le_refl _) | (simp; done) | (simp only [World.size_alloc, World.size_setCell, World.size_drew, World.heap_drewN] at *; omega)) | (with_reducible refine below_alloc ?_ _) | (with_reducible refine Below.drew ?_) | (with_reducible refine below_drewN ?_) | (with_reducible refine below_via (by assumption) ?_)))) c4)
    have d5 : Below w4.heap.size w4 w5 := below_via b5 (by (repeat (first | (with_reducible exact Below.refl _ _) | (with_reducible assumption) | (with_reducible refine Below.setCell ?_ ?side _; case side => first | (with_reducible exact Nat.le_refl _) | (simp; done) | (simp only [World.size_alloc, World.size_setCell, World.size_drew, World.heap_drewN] at *; omega)) | (with_reducible refine below_alloc ?_ _) | (with_reducible refine Below.drew ?_) | (with_reducible refine below_drewN ?_) | (with_reducible refine below_via (by assumption) ?_))))
    clear hc1 hf1 hs1 hz1 c4
    obtain ⟨hc1, hf1, hs1, hz1⟩ := brules c5
    obtain ⟨hc2, hf2, hs2, hz2⟩ := brules b5
    have I5 := I4.keep d5
    have J5 := S0.keep B5
    clear I2 I4 S0 b1 b2 b3 b4
    go_wp2_with fail
    go_region_with (first
      | (go_at_call 31; refine (toStep_any _ _ _ _ _ _ _ _ _ _ _ _ _ _ _ _ xs _ (J5.keep (by (repeat (first | (with_reducible exact Below.refl _ _) | (with_reducible assumption) | (with_reducible refine Below.setCell ?_ ?side _; case side => first | (with_reducible exact Nat.le_refl _) | (simp; done) | (simp only [World.size_alloc, World.size_setCell, World.size_drew, World.heap_drewN] at *; omega)) | (with_reducible refine below_alloc ?_ _) | (with_reducible refine Below.drew ?_) | (with_reducible refine below_drewN ?_) | (with_reducible refine below_via (by assumption) ?_))))) hlen).mono ?_; rintro e w6 ⟨⟨a6, c6, rfl, I6⟩, b6⟩; have B6 := below_via b6 (by (repeat (first | (with_reducible exact Below.refl _ _) | (with_reducible assumption) | (with_reducible refine Below.setCell ?_ ?side _; case side => first | (with_reducible exact Nat.le_refl _) | (simp; done) | (simp only [World.size_alloc, World.size_setCell, World.size_drew, World.heap_drewN] at *; omega)) | (with_reducible refine below_alloc ?_ _) | (with_reducible refine Below.drew ?_) | (with_reducible refine below_drewN ?_) | (with_reducible refine below_via (by assumption) ?_))) : Below w.heap.size w _); have d6 : Below w5.heap.size w5 w6 := below_via b6 (by (repeat (first | (with_reducible exact Below.refl _ _) | (with_reducible assumption) | (with_reducible refine Below.setCell ?_ ?side _; case side => first | (with_reducible exact Nat.le_refl _) | (simp; done) | (simp only [World.size_alloc, World.size_setCell, World.size_drew, World.heap_drewN] at *; omega)) | (with_reducible refine below_alloc ?_ _) | (with_reducible refine Below.drew ?_) | (with_reducible refine below_drewN ?_) | (with_reducible refine below_via (by assumption) ?_)))); have b6' := below_via b6 (below_via (W := w5) (by (repeat (first | (with_reducible exact Below.refl _ _) | (with_reducible assumption) | (with_reducible refine Below.setCell ?_ ?side _; case side => first | (with_reducible exact Nat.le_refl _) | (simp; done) | (simp only [World.size_alloc, World.size_setCell, World.size_drew, World.heap_drewN] at *; omega)) | (with_reducible refine below_alloc ?_ _) | (with_reducible refine Below.drew ?_) | (with_reducible refine below_drewN ?_) | (with_reducible refine below_via (by assumption) ?_)))) b5); obtain ⟨hc3, hf3, hs3, hz3⟩ := brules b6')
      | (go_at_call 33; refine (eqStep_any _ _ _ _ _ _ _ _ _ _ _ _ _ _ _ _ _ _ xs _ (I5.keep (by first | exact d6 | (refine below_via (W := w6) ?_ d6; (repeat (first | (with_reducible exact Below.refl _ _) | (with_reducible assumption) | (with_reducible refine Below.setCell ?_ ?side _; case side => first | (with_reducible exact Nat.le_refl _) | (simp; done) | (simp only [World.size_alloc, World.size_setCell, World.size_drew, World.heap_drewN] at *; omega)) | (with_reducible refine below_alloc ?_ _) | (with_reducible refine Below.drew ?_) | (with_reducible refine below_drewN ?_) | (with_reducible refine below_via (by assumption) ?_)))))) (I6.keep (by (repeat (first | (with_reducible exact Below.refl _ _) | (with_reducible assumption) | (with_reducible refine Below.setCell ?_ ?side _; case side => first | (with_reducible exact Nat.le_refl _) | (simp; done) | (simp only [World.size_alloc, World.size_setCell, World.size_drew, World.heap_drewN] at *; omega)) | (with_reducible refine below_alloc ?_ _) | (with_reducible refine Below.drew ?_) | (with_reducible refine below_drewN ?_) | (with_reducible refine below_via (by assumption) ?_)))))).mono ?_; rintro e w7 ⟨rfl, b7⟩; have B7 := below_via b7 (by (repeat (first | (with_reducible exact Below.refl _ _) | (with_reducible assumption) | (with_reducible refine Below.setCell ?_ ?side _; case side => first | (with_reducible exact Nat.le_refl _) | (simp; done) | (simp only [World.size_alloc, World.size_setCell, World.size_drew, World.heap_drewN] at *; omega)) | (with_reducible refine below_alloc ?_ _) | (with_reducible refine Below.drew ?_) | (with_reducible refine below_drewN ?_) | (with_reducible refine below_via (by assumption) ?_))) : Below w.heap.size w _)))
    all_goals
      go_wp2_with fail
      go_ret
      exact ⟨rfl, by (repeat (first | (with_reducible exact Below.refl _ _) | (with_reducible assumption) | (with_reducible refine Below.setCell ?_ ?side _; case side => first | (with_reducible exact Nat.le_refl _) | (simp; done) | (simp only [World.size_alloc, World.size_setCell, World.size_drew, World.heap_drewN] at *; omega)) | (with_reducible refine below_alloc ?_ _) | (with_reducible refine Below.drew ?_) | (with_reducible refine below_drewN ?_) | (with_reducible refine below_via (by assumption) ?_)))⟩
  · have hn : Hid ((1048576 : Int) - (len : Int) < 0) := by unfold Hid; omega
    go_enter Tryd.func8, Tryd.ntmps8
    go_wp2_with fail
    refine (szStep_any _ _ _ _ _ _ _ _ _ _ _ _ _ _ _ _ _ _ hl (by omega) (by omega)).mono ?_
    rintro e w1 ⟨rfl, b1⟩
    rw [if_pos (show (1048576 : Int) - (len : Int) < 0 by omega)]
    have B1 := below_via b1 (by (repeat (first | (with_reducible exact Below.refl _ _) | (with_reducible assumption) | (with_reducible refine Below.setCell ?_ ?side _; case side => first | (with_reducible exact Nat.le_refl _) | (simp; done) | (simp only [World.size_alloc, World.size_setCell, World.size_drew, World.heap_drewN] at *; omega)) | (with_reducible refine below_alloc ?_ _) | (with_reducible refine Below.drew ?_) | (with_reducible refine below_drewN ?_) | (with_reducible refine below_via (by assumption) ?_))) : Below w.heap.size w _)
    go_wp2_with fail
    go_ret
    exact ⟨rfl, by (repeat (first | (with_reducible exact Below.refl _ _) | (with_reducible assumption) | (with_reducible refine Below.setCell ?_ ?side _; case side => first | (with_reducible exact Nat.le_refl _) | (simp; done) | (simp only [World.size_alloc, World.size_setCell, World.size_drew, World.heap_drewN] at *; omega)) | (with_reducible refine below_alloc ?_ _) | (with_reducible refine Below.drew ?_) | (with_reducible refine below_drewN ?_) | (with_reducible refine below_via (by assumption) ?_)))⟩

end Go.Proofs.YtegnlijgjcfmlaaDoor
