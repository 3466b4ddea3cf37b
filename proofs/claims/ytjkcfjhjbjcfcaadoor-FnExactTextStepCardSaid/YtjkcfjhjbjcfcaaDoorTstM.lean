/- Steps: the laws own marks. -/
import Derived.Test.YtjkcfjhjbjcfcaaDoorStL
import Derived.Test.YtjkcfjhjbjcfcaaDoorIntsW
import Derived.Test.YtjkcfjhjbjcfcaaDoorStV
import Derived.Test.YtjkcfjhjbjcfcaaDoorRow
namespace Go.Proofs.YtjkcfjhjbjcfcaaDoor
open Go.RowKit
set_option linter.unusedVariables false
set_option linter.unusedSimpArgs false

theorem grown_of_opt {w w' : World} (g : Option Nat) (hb : Below w.heap.size w w') : w.grownBy w' g := ⟨hb.os, hb.tape, hb.output, hb.size, fun k hk _ => hb.block k hk⟩
theorem grown_opt {w w1 w2 : World} {g : Option Nat} (h : w.grownBy w1 g) (h2 : w1.grownBy w2 g) : w.grownBy w2 g :=
  ⟨h2.os.trans h.os, h2.tape.trans h.tape, h2.output.trans h.output, Nat.le_trans h.size h2.size, fun k hk hne => (h2.block k (Nat.lt_of_lt_of_le hk h.size) hne).trans (h.block k hk hne)⟩
theorem Row.keepO {b : Nat} {g : Option Nat} {cs : List Value} {w w' : World} (h : Row b cs w) (hp : 0 < cs.length) (hg : w.grownBy w' g) (hne : g ≠ some b) : Row b cs w' := by
  have hl := h.lt hp
  have hk := hg.block b hl (fun e => hne e.symm)
  exact ⟨fun j v hj => by rw [World.cell?_of_block (w := w) (a := ⟨b, j, none⟩) hk]; exact h.1 j v hj, fun j hj => by rw [World.frozen?_of_block (w := w) (a := ⟨b, j, none⟩) hk]; exact h.2 j hj⟩
theorem IS.keepO {w w' : World} {B : Nat} {a : Option Addr} {len : Nat} {xs : List Int} {g : Option Nat} (h : IS w B a len xs) (hg : w.grownBy w' g) (hB : ∀ k, g = some k → B ≤ k) : IS w' B a len xs :=
  ⟨h.1, h.2.1, h.2.2.1, fun i x hx => by
    obtain ⟨b, off, e, hlt, hc⟩ := h.2.2.2 i x hx
    exact ⟨b, off, e, hlt, hg.cell hc (by intro h; have := hB _ h.symm; simp only at this; omega)⟩⟩

set_option maxRecDepth 100000 in
set_option maxHeartbeats 1600000 in
theorem markStep_any (B : Nat) (kd k key ch too amt fee : Int) (yes : Bool) (a : Option Addr) (len cap : Nat) (lo hi st mn mx : Int) (xs : List Int) (q : Int) (w : World) (S0 : OI w B a len cap xs) (hB : B ≤ w.heap.size) (hlen : len ≤ 1099511627776) (h0 : 0 ≤ q) (h1 : q ≤ 1099511627776) :
    Calls Tryd.prog 7 #[.agg #[.int .i64 kd, .int .i64 k, .int .i64 key, .int .i64 ch, .int .i64 too, .int .i64 amt, .int .i64 fee, .bool yes, .slice a len cap, .int .i64 lo, .int .i64 hi, .int .i64 st, .int .i64 mn, .int .i64 mx], .int .i64 q] w fun e w' => e = .returned (.int .i64 (q + len)) ∧ OI w' B a len cap (marks q len) ∧ Below B w w' ∧ w.grownBy w' (Value.slice a len cap).ownBlock := by
  have hb := below_alloc (Below.refl _ w) (.cells #[.int .i64 kd, .int .i64 k, .int .i64 key, .int .i64 ch, .int .i64 too, .int .i64 amt, .int .i64 fee, .bool yes, .slice a len cap, .int .i64 lo, .int .i64 hi, .int .i64 st, .int .i64 mn, .int .i64 mx] 28)
  have S1 := Lib.hid (OI.keep S0 hb)
  have hbB := Lib.hid (show B ≤ (w.alloc (.cells #[.int .i64 kd, .int .i64 k, .int .i64 key, .int .i64 ch, .int .i64 too, .int .i64 amt, .int .i64 fee, .bool yes, .slice a len cap, .int .i64 lo, .int .i64 hi, .int .i64 st, .int .i64 mn, .int .i64 mx] 28)).heap.size from Nat.le_trans hB hb.size)
  have hg1 := Lib.hid (grown_of_opt (Value.slice a len cap).ownBlock hb)
  have hb1 := Lib.hid (show Below B w _ from (Below.refl B w).trans ⟨hb.os, hb.tape, hb.output, hb.size, fun k hk => hb.block k (Nat.lt_of_lt_of_le hk hB)⟩)
  clear hb
  go_enter Tryd.func7, Tryd.ntmps7
  go_wp2_with fail
  refine (markIntS_any B a len cap xs q _ S1.out hbB.out hlen h0 h1).mono ?_
  rintro e w1 ⟨rfl, o1, b1, g1⟩
  go_wp2_with fail
  go_ret
  exact ⟨rfl, o1, hb1.out.trans b1, grown_opt hg1.out g1⟩
set_option maxRecDepth 100000 in
set_option maxHeartbeats 1600000 in
theorem heldStep_any (kd k key ch too amt fee : Int) (yes : Bool) (a : Option Addr) (len cap : Nat) (lo hi st mn mx : Int) (q : Int) (w : World) (S0 : IS w w.heap.size a len (marks q len)) (hlen : len ≤ 1099511627776) (h0 : 0 ≤ q) (h1 : q ≤ 1099511627776) :
    Calls Tryd.prog 8 #[.agg #[.int .i64 kd, .int .i64 k, .int .i64 key, .int .i64 ch, .int .i64 too, .int .i64 amt, .int .i64 fee, .bool yes, .slice a len cap, .int .i64 lo, .int .i64 hi, .int .i64 st, .int .i64 mn, .int .i64 mx], .int .i64 q] w fun e w' => e = .returned (.int .i64 (q + len)) ∧ Below w.heap.size w w' := by
  have hb := below_alloc (Below.refl _ w) (.cells #[.int .i64 kd, .int .i64 k, .int .i64 key, .int .i64 ch, .int .i64 too, .int .i64 amt, .int .i64 fee, .bool yes, .slice a len cap, .int .i64 lo, .int .i64 hi, .int .i64 st, .int .i64 mn, .int .i64 mx] 28)
  have S1 := Lib.hid (IS.keep S0 hb)
  have HB := Lib.hid hb
  clear hb
  go_enter Tryd.func8, Tryd.ntmps8
  go_wp2_with fail
  refine (heldIntS_any a len cap q _ S1.out hlen h0 h1).mono ?_
  rintro e w1 ⟨rfl, rfl⟩
  go_wp2_with fail
  go_ret
  exact ⟨rfl, HB.out⟩

end Go.Proofs.YtjkcfjhjbjcfcaaDoor
