/- The text of a step, both sides. -/
import Derived.Test.YtafbdbefmlgioaaGreatDoorStX
import Derived.Test.YtafbdbefmlgioaaGreatDoorStC
import Derived.Test.YtafbdbefmlgioaaGreatDoorStR
namespace Go.Proofs.YtafbdbefmlgioaaGreatDoor
open Go.RowKit
set_option linter.unusedVariables false
set_option linter.unusedSimpArgs false

theorem stText_impl (kd : Int) (k key ch too amt fee : Int) (yes : Bool) (a : Option Addr) (len cap : Nat) (xs : List Int) (lo hi st mn mx : Int) (w : World) (S0 : IS w w.heap.size a len xs) (T0 : PM w) (hlen : len ≤ 1048576) : Calls Tryz.prog 17 #[.agg #[.int .i64 kd, .int .i64 k, .int .i64 key, .int .i64 ch, .int .i64 too, .int .i64 amt, .int .i64 fee, .bool yes, .slice a len cap, .int .i64 lo, .int .i64 hi, .int .i64 st, .int .i64 mn, .int .i64 mx]] w fun e w' => e = .returned (.string (S (stText kd k key ch too amt fee yes xs lo hi st mn mx))) ∧ Below w.heap.size w w' := by
  rcases (show kd = 1 ∨ kd = 2 ∨ kd = 3 ∨ kd = 4 ∨ kd = 5 ∨ (kd ≠ 1 ∧ kd ≠ 2 ∧ kd ≠ 3 ∧ kd ≠ 4 ∧ kd ≠ 5) by omega) with rfl | rfl | rfl | rfl | rfl | ⟨g1, g2, g3, g4, g5⟩
  · exact st1_impl _ _ _ _ _ _ _ _ _ _ _ _ _ _ _ _ _ S0 T0
  · exact st2_impl _ _ _ _ _ _ _ _ _ _ _ _ _ _ _ _ _ S0
  · exact st3_impl _ _ _ _ _ _ _ _ _ _ _ _ _ _ _ _ _ S0 T0 hlen
  · exact st4_impl _ _ _ _ _ _ _ _ _ _ _ _ _ _ _ _ _ S0
  · exact st5_impl _ _ _ _ _ _ _ _ _ _ _ _ _ _ _ _ _ S0 T0
  · exact stN_impl _ g1 g2 g3 g4 g5 _ _ _ _ _ _ _ _ _ _ _ _ _ _ _ _ _ S0

theorem stText_spec (kd : Int) (k key ch too amt fee : Int) (yes : Bool) (a : Option Addr) (len cap : Nat) (xs : List Int) (lo hi st mn mx : Int) (w : World) (S0 : IS w w.heap.size a len xs) (hlen : len ≤ 1048576) : Calls Tryz.prog 78 #[.agg #[.int .i64 kd, .int .i64 k, .int .i64 key, .int .i64 ch, .int .i64 too, .int .i64 amt, .int .i64 fee, .bool yes, .slice a len cap, .int .i64 lo, .int .i64 hi, .int .i64 st, .int .i64 mn, .int .i64 mx]] w fun e w' => e = .returned (.string (S (stText kd k key ch too amt fee yes xs lo hi st mn mx))) ∧ Below w.heap.size w w' := by
  rcases (show kd = 1 ∨ kd = 2 ∨ kd = 3 ∨ kd = 4 ∨ kd = 5 ∨ (kd ≠ 1 ∧ kd ≠ 2 ∧ kd ≠ 3 ∧ kd ≠ 4 ∧ kd ≠ 5) by omega) with rfl | rfl | rfl | rfl | rfl | ⟨g1, g2, g3, g4, g5⟩
  · exact st1_spec _ _ _ _ _ _ _ _ _ _ _ _ _ _ _ _ _ S0
  · exact st2_spec _ _ _ _ _ _ _ _ _ _ _ _ _ _ _ _ _ S0
  · exact st3_spec _ _ _ _ _ _ _ _ _ _ _ _ _ _ _ _ _ S0 hlen
  · exact st4_spec _ _ _ _ _ _ _ _ _ _ _ _ _ _ _ _ _ S0
  · exact st5_spec _ _ _ _ _ _ _ _ _ _ _ _ _ _ _ _ _ S0
  · exact stN_spec _ g1 g2 g3 g4 g5 _ _ _ _ _ _ _ _ _ _ _ _ _ _ _ _ _ S0

end Go.Proofs.YtafbdbefmlgioaaGreatDoor
