/- Scripts read: the law walked. -/
import Derived.Test.YtafbdbefmlgioaaGreatDoorScrM
import Derived.Test.YtafbdbefmlgioaaGreatDoorScr
import Derived.Test.YtafbdbefmlgioaaGreatDoorScrI
import Derived.Test.YtafbdbefmlgioaaGreatDoorScrS
namespace Go.Proofs.YtafbdbefmlgioaaGreatDoor
open Go.RowKit
set_option linter.unusedVariables false
set_option linter.unusedSimpArgs false

set_option maxRecDepth 100000 in
set_option maxHeartbeats 6400000 in
theorem walk_FnExactReadScript (s : ByteArray) (hs : s.size ≤ maxLen) (w : World) (T0 : LV w) :
    Calls Tryz.prog 4 #[.string s] w fun e w' => e = .returned (.bool true) ∧ Below w.heap.size w w' := by
  have hs2 : s.size ≤ 9223372036854775807 := by unfold maxLen at hs; omega
  by_cases hbig : s.size ≤ 1048576
  · have hl := sz_len s
    obtain ⟨L, hL⟩ : ∃ L, L = (script s.data.toList).1 := ⟨_, rfl⟩
    obtain ⟨ln, hln⟩ : ∃ ln, ln = (script s.data.toList).2 := ⟨_, rfl⟩
    have h300 : L.length ≤ 300 := by rw [hL]; exact script_len _
    have hk : ∀ s' ∈ L, s'.keep.length ≤ 1048576 := by
      rw [hL]
      intro x hx
      exact (script_ok (by omega) hx).1
    have hq := qA_bd L 1 hk
    obtain ⟨Q, hQ⟩ : ∃ Q, Q = qA 1 L := ⟨_, rfl⟩
    rw [← hQ] at hq
    have HQ := Lib.hid hQ
    have HL := Lib.hid hL
    have HN := Lib.hid hln
    have HK := Lib.hid hk
    clear hL hln hk hl hQ
    go_enter Tryz.func4, Tryz.ntmps4
    go_wp2_with fail
    refine (read_spec s hbig _).mono ?_
    rintro e w1 ⟨⟨v0, us0, rfl, O0⟩, b1⟩
    rw [← HL.out] at O0
    rw [← HN.out]
    have B1 : Below w.heap.size w w1 := below_via b1 (by (repeat (first | (with_reducible exact Below.refl _ _) | (with_reducible assumption) | (with_reducible refine Below.setCell ?_ ?side _; case side => first | (with_reducible exact Nat.le_refl _) | (simp; done) | (simp only [World.size_alloc, World.size_setCell, World.size_drew, World.heap_drewN] at *; omega)) | (with_reducible refine below_alloc ?_ _) | (with_reducible refine Below.drew ?_) | (with_reducible refine below_drewN ?_) | (with_reducible refine below_via (by assumption) ?_))))
    have V1 := O0.vn
    clear O0 b1
    go_wp2_with fail
    refine (read_impl s hbig _ (T0.keep B1)).mono ?_
    rintro e w2 ⟨⟨v1, us1, rfl, O2⟩, b2⟩
    rw [← HL.out] at O2
    rw [← HN.out]
    have B2 : Below w.heap.size w w2 := below_via b2 B1
    have V2 := V1.keepB b2 (Nat.le_refl _)
    have z2 := b2.size
    clear V1 b2
    go_wp2_with fail
    refine (eqStepS_any v1 v0 L _ O2.vn (V2.mono z2)).mono ?_
    rintro e w3 ⟨rfl, b3⟩
    have B3 : Below w.heap.size w w3 := below_via b3 B2
    have V3 := V2.keepB b3 z2
    have O3 := O2.keep b3
    have z3 : w1.heap.size ≤ w3.heap.size := Nat.le_trans z2 b3.size
    clear V2 O2 b3
    go_wp2_with fail
    refine (markStepS_any w1.heap.size v1 L us1 1 _ O3 z3 h300 HK.out (by omega) (by omega)).mono ?_
    rintro e w4 ⟨rfl, O4, x4⟩
    rw [← HQ.out]
    have V4 := V3.ex x4 (fun k hk => (O3.lt k hk).1)
    have B4 : Below w.heap.size w w4 := B3.trans (x4.below (fun k hk => Nat.le_trans B1.size (O3.lt k hk).1) B3.size)
    have z4 : w1.heap.size ≤ w4.heap.size := Nat.le_trans z3 x4.size
    clear V3 O3 x4
    go_wp2_with fail
    refine (heldStepS_any v1 L 1 _ O4.vn h300 HK.out (by omega) (by omega)).mono ?_
    rintro e w5 ⟨rfl, rfl⟩
    rw [← HQ.out]
    go_upto_region 15 with fail
    go_wp2_with fail
    refine (read_impl s hbig _ (T0.keep B4)).mono ?_
    rintro e w6 ⟨⟨v2, us2, rfl, O6⟩, b6⟩
    rw [← HL.out] at O6
    rw [← HN.out]
    have B6 : Below w.heap.size w w6 := below_via b6 B4
    have V6 := V4.keepB b6 z4
    have O46 := O4.keep b6
    have z6 : w1.heap.size ≤ w6.heap.size := Nat.le_trans z4 b6.size
    clear V4 O4 b6
    go_wp2_with fail
    refine (eqStepS_any v2 v0 L _ O6.vn (V6.mono z6)).mono ?_
    rintro e w7 ⟨rfl, b7⟩
    have B7 : Below w.heap.size w w7 := below_via b7 B6
    have O7 := O46.keep b7
    clear V6 O46 O6 b7
    go_wp2_with fail
    refine (heldStepS_any v1 L 1 _ O7.vn h300 HK.out (by omega) (by omega)).mono ?_
    rintro e w8 ⟨rfl, rfl⟩
    rw [← HQ.out]
    go_wp2_with fail
    go_ret
    exact ⟨rfl, B7⟩
  · go_enter Tryz.func4, Tryz.ntmps4
    go_wp2
    go_ret
    exact ⟨rfl, Below.refl _ _⟩

end Go.Proofs.YtafbdbefmlgioaaGreatDoor
