/- The law on splitting walked. -/
import Derived.Test.YtfijgegegfpfkaaSFew5
namespace Go.Proofs.Ytfijgegegfpfkaa
open Go.RowKit
set_option linter.unusedVariables false
set_option linter.unusedSimpArgs false

set_option maxHeartbeats 4000000 in
theorem walk_FnExactSplitFew (n : Int) (wn : (Lit.int .i64 n).wf = true) (a : Option Addr) (len cap : Nat) (cs : List Int) (w : World) (S0 : IS w w.heap.size a len cs) :
    Calls Try.prog 3 #[.int .i64 n, .slice a len cap] w fun e w' => e = .returned (.bool true) ∧ Below w.heap.size w w' := by
  have hlr := splitF_len n cs

  have hl := S0.len
  by_cases h0 : len ≤ 1048576
  · go_enter Try.func3, Try.ntmps3
    go_wp2_with fail
    refine (toIntS_any _ _ _ cs _ ((S0.keepB (Below.refl w.heap.size w) (Nat.le_refl _)).mono (by omega)) h0).mono ?_
    rintro e w1 ⟨⟨a1, c1, rfl, o1⟩, b1⟩
    have z1 := b1.size
    have lt1 := OI.lt o1
    go_wp2_with fail
    refine (splitFew_spec _ _ _ _ cs _ (OI.is o1)).mono ?_
    rintro e w2 ⟨⟨a2, c2, rfl, o2⟩, b2⟩
    have z2 := b2.size
    have i2 := o2.is
    go_wp2_with fail
    refine (toIntS_any _ _ _ cs _ ((S0.keepB ((b1.mono (by omega)).trans (b2.mono (by omega))) (Nat.le_refl _)).mono (by omega)) h0).mono ?_
    rintro e w3 ⟨⟨a3, c3, rfl, o3⟩, b3⟩
    have z3 := b3.size
    have lt3 := OI.lt o3
    go_wp2_with fail
    refine (splitFew_impl _ _ _ _ cs _ (OI.is o3)).mono ?_
    rintro e w4 ⟨⟨a4, c4, rfl, o4⟩, b4⟩
    have z4 := b4.size
    go_wp2_with fail
    refine (eqIntS_any _ _ _ _ _ _ _ _ _ (OI.is o4) ((i2.keepB ((b3.mono (by omega)).trans (b4.mono (by omega))) (Nat.le_refl _)).mono (by omega))).mono ?_
    rintro e w5 ⟨rfl, b5⟩
    have z5 := b5.size
    go_wp2_with fail
    refine (toIntS_any _ _ _ cs _ ((S0.keepB (((((b1.mono (by omega)).trans (b2.mono (by omega))).trans (b3.mono (by omega))).trans (b4.mono (by omega))).trans (b5.mono (by omega))) (Nat.le_refl _)).mono (by omega)) h0).mono ?_
    rintro e w6 ⟨⟨a6, c6, rfl, o6⟩, b6⟩
    have z6 := b6.size
    have lt6 := OI.lt o6
    go_wp2_with fail
    refine (eqIntS_any _ _ _ _ _ _ _ _ _ (OI.is (o3.keep (((b4.mono (by omega)).trans (b5.mono (by omega))).trans (b6.mono (by omega))))) (OI.is o6)).mono ?_
    rintro e w7 ⟨rfl, b7⟩
    have z7 := b7.size
    have og7 := o4.keep (((b5.mono (by omega)).trans (b6.mono (by omega))).trans (b7.mono (by omega)))
    go_wp2_with fail
    refine (markIntS_any w2.heap.size _ _ _ _ _ _ (o3.keep ((((b4.mono (by omega)).trans (b5.mono (by omega))).trans (b6.mono (by omega))).trans (b7.mono (by omega)))) (by omega) (by omega) (by omega) (by omega)).mono ?_
    rintro e w8 ⟨rfl, -, b8, g8⟩
    have z8 := b8.size
    have og8 := og7.only g8 (fun p hp => Nat.lt_of_lt_of_le (lt3 p hp) (by omega))
    go_wp2_with fail
    refine (eqIntS_any _ _ _ _ _ _ _ _ _ (OI.is og8) ((i2.keepB ((((((b3.mono (by omega)).trans (b4.mono (by omega))).trans (b5.mono (by omega))).trans (b6.mono (by omega))).trans (b7.mono (by omega))).trans (b8.mono (by omega))) (Nat.le_refl _)).mono (by omega))).mono ?_
    rintro e w9 ⟨rfl, b9⟩
    have z9 := b9.size
    have og9 := og8.keep (b9.mono (by omega))
    go_wp2_with fail
    refine (markIntS_any w3.heap.size _ _ _ _ _ _ og9 (by omega) (by omega) (by omega) (by omega)).mono ?_
    rintro e w10 ⟨rfl, og10, b10, g10⟩
    have z10 := b10.size
    go_wp2_with fail
    refine (heldIntS_any _ _ _ _ _ og10.is (by omega) (by omega) (by omega)).mono ?_
    rintro e wx ⟨rfl, rfl⟩
    go_wp2_with fail
    refine (toIntS_any _ _ _ cs _ ((S0.keepB ((((((((((b1.mono (by omega)).trans (b2.mono (by omega))).trans (b3.mono (by omega))).trans (b4.mono (by omega))).trans (b5.mono (by omega))).trans (b6.mono (by omega))).trans (b7.mono (by omega))).trans (b8.mono (by omega))).trans (b9.mono (by omega))).trans (b10.mono (by omega))) (Nat.le_refl _)).mono (by omega)) h0).mono ?_
    rintro e w11 ⟨⟨a11, c11, rfl, o11⟩, b11⟩
    have z11 := b11.size
    have lt11 := OI.lt o11
    go_wp2_with fail
    refine (splitFew_impl _ _ _ _ cs _ (OI.is o11)).mono ?_
    rintro e w12 ⟨⟨a12, c12, rfl, o12⟩, b12⟩
    have z12 := b12.size
    go_wp2_with fail
    refine (eqIntS_any _ _ _ _ _ _ _ _ _ (OI.is o12) ((i2.keepB ((((((((((b3.mono (by omega)).trans (b4.mono (by omega))).trans (b5.mono (by omega))).trans (b6.mono (by omega))).trans (b7.mono (by omega))).trans (b8.mono (by omega))).trans (b9.mono (by omega))).trans (b10.mono (by omega))).trans (b11.mono (by omega))).trans (b12.mono (by omega))) (Nat.le_refl _)).mono (by omega))).mono ?_
    rintro e w13 ⟨rfl, b13⟩
    have z13 := b13.size
    have og13 := og10.keep (((b11.mono (by omega)).trans (b12.mono (by omega))).trans (b13.mono (by omega)))
    go_wp2_with fail
    refine (heldIntS_any _ _ _ _ _ og13.is (by omega) (by omega) (by omega)).mono ?_
    rintro e wx ⟨rfl, rfl⟩
    go_wp2_with fail
    go_ret
    exact ⟨rfl, (((((((((((((b1.mono (by omega)).trans (b2.mono (by omega))).trans (b3.mono (by omega))).trans (b4.mono (by omega))).trans (b5.mono (by omega))).trans (b6.mono (by omega))).trans (b7.mono (by omega))).trans (b8.mono (by omega))).trans (b9.mono (by omega))).trans (b10.mono (by omega))).trans (b11.mono (by omega))).trans (b12.mono (by omega))).trans (b13.mono (by omega)))⟩
  · go_enter Try.func3, Try.ntmps3
    go_wp2
    go_ret
    exact ⟨rfl, Below.refl _ _⟩

end Go.Proofs.Ytfijgegegfpfkaa
