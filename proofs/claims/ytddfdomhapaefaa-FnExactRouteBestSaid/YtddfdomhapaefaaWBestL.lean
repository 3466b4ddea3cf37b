/- The law on the best route walked. -/
import Derived.Test.YtddfdomhapaefaaWBest5
namespace Go.Proofs.Ytddfdomhapaefaa
open Go.RowKit
set_option linter.unusedVariables false
set_option linter.unusedSimpArgs false

set_option maxHeartbeats 4000000 in
theorem walk_FnExactRouteBest (a : Option Addr) (len cap : Nat) (l : List Rd) (fr : Int) (wfr : (Lit.int .i64 fr).wf = true) (dst : Int) (wdst : (Lit.int .i64 dst).wf = true) (n : Int) (wn : (Lit.int .i64 n).wf = true) (hops : Int) (whops : (Lit.int .i64 hops).wf = true) (w : World) (S0 : RdS w w.heap.size a len l) :
    Calls Try.prog 14 #[.slice a len cap, .int .i64 fr, .int .i64 dst, .int .i64 n, .int .i64 hops] w fun e w' => e = .returned (.bool true) ∧ Below w.heap.size w w' := by
  have hlr := bestR_len l fr dst n hops

  have hl := S0.lenB
  by_cases h : (1048576 : Int) - (len : Int) < 0
  · go_enter Try.func14, Try.ntmps14
    go_wp2_with (((go_at_call 23; refine (szRoadS_any _ _ _ _ _ (by assumption) (by omega) (by omega)).mono ?_); rintro e w1 ⟨rfl, rfl⟩))
    go_ret
    exact ⟨rfl, Below.refl _ _⟩
  · have h0 : len ≤ 1048576 := by omega
    go_enter Try.func14, Try.ntmps14
    go_wp2_with fail
    refine (szRoadS_any _ _ _ _ _ hl (by omega) (by omega)).mono ?_
    rintro e wx ⟨rfl, rfl⟩
    go_wp2_with fail
    refine (toRoadS_any _ _ _ l _ (FS.mono (FS.keepB S0 (Below.refl w.heap.size w) (Nat.le_refl _)) (by omega)) h0).mono ?_
    rintro e w1 ⟨⟨a1, c1, rfl, o1⟩, b1⟩
    have z1 := b1.size
    have lt1 := OF.lt o1
    go_wp2_with fail
    refine (routeBest_specL _ _ _ _ _ _ _ l _ (OF.fs (fun _ => rfl) o1)).mono ?_
    rintro e w2 ⟨⟨a2, c2, rfl, o2⟩, b2⟩
    have z2 := b2.size
    have i2 := o2.is
    go_wp2_with fail
    refine (toRoadS_any _ _ _ l _ (FS.mono (FS.keepB S0 ((b1.mono (by omega)).trans (b2.mono (by omega))) (Nat.le_refl _)) (by omega)) h0).mono ?_
    rintro e w3 ⟨⟨a3, c3, rfl, o3⟩, b3⟩
    have z3 := b3.size
    have lt3 := OF.lt o3
    go_wp2_with fail
    refine (routeBest_impl _ _ _ _ _ _ _ l _ (OF.fs (fun _ => rfl) o3) o3.capB (i64_bd wfr)).mono ?_
    rintro e w4 ⟨⟨a4, c4, rfl, o4⟩, b4⟩
    have z4 := b4.size
    go_wp2_with fail
    refine (eqIntS_any _ _ _ _ _ _ _ _ _ (OI.is o4) ((i2.keepB ((b3.mono (by omega)).trans (b4.mono (by omega))) (Nat.le_refl _)).mono (by omega))).mono ?_
    rintro e w5 ⟨rfl, b5⟩
    have z5 := b5.size
    go_wp2_with fail
    refine (toRoadS_any _ _ _ l _ (FS.mono (FS.keepB S0 (((((b1.mono (by omega)).trans (b2.mono (by omega))).trans (b3.mono (by omega))).trans (b4.mono (by omega))).trans (b5.mono (by omega))) (Nat.le_refl _)) (by omega)) h0).mono ?_
    rintro e w6 ⟨⟨a6, c6, rfl, o6⟩, b6⟩
    have z6 := b6.size
    have lt6 := OF.lt o6
    go_wp2_with fail
    refine (eqRoadS_any _ _ _ _ _ _ _ (OF.fs (fun _ => rfl) (o3.keep (((b4.mono (by omega)).trans (b5.mono (by omega))).trans (b6.mono (by omega))))) (OF.fs (fun _ => rfl) o6)).mono ?_
    rintro e w7 ⟨rfl, b7⟩
    have z7 := b7.size
    have og7 := o4.keep (((b5.mono (by omega)).trans (b6.mono (by omega))).trans (b7.mono (by omega)))
    go_wp2_with fail
    refine (markRoadS_any w2.heap.size _ _ _ _ _ _ (o3.keep ((((b4.mono (by omega)).trans (b5.mono (by omega))).trans (b6.mono (by omega))).trans (b7.mono (by omega)))) (by omega) (by omega) (by omega)).mono ?_
    rintro e w8 ⟨rfl, b8, g8⟩
    have z8 := b8.size
    have og8 := og7.only g8 (fun p hp => Nat.lt_of_lt_of_le (lt3 p hp) (by omega))
    go_wp2_with fail
    refine (eqIntS_any _ _ _ _ _ _ _ _ _ (OI.is og8) ((i2.keepB ((((((b3.mono (by omega)).trans (b4.mono (by omega))).trans (b5.mono (by omega))).trans (b6.mono (by omega))).trans (b7.mono (by omega))).trans (b8.mono (by omega))) (Nat.le_refl _)).mono (by omega))).mono ?_
    rintro e w9 ⟨rfl, b9⟩
    have z9 := b9.size
    have og9 := og8.keep (b9.mono (by omega))
    go_wp2_with fail
    refine (markIntS_any w3.heap.size _ _ _ _ _ _ og9 (by omega) (by omega) (by omega) (by omega)).mono ?_
    rintro e w10 ⟨rfl, og10, b10, g10⟩
    have z10 := b10.size
    go_wp2_with fail
    refine (heldIntS_any _ _ _ _ _ og10.is (by omega) (by omega) (by omega)).mono ?_
    rintro e wx ⟨rfl, rfl⟩
    go_wp2_with fail
    refine (toRoadS_any _ _ _ l _ (FS.mono (FS.keepB S0 ((((((((((b1.mono (by omega)).trans (b2.mono (by omega))).trans (b3.mono (by omega))).trans (b4.mono (by omega))).trans (b5.mono (by omega))).trans (b6.mono (by omega))).trans (b7.mono (by omega))).trans (b8.mono (by omega))).trans (b9.mono (by omega))).trans (b10.mono (by omega))) (Nat.le_refl _)) (by omega)) h0).mono ?_
    rintro e w11 ⟨⟨a11, c11, rfl, o11⟩, b11⟩
    have z11 := b11.size
    have lt11 := OF.lt o11
    go_wp2_with fail
    refine (routeBest_impl _ _ _ _ _ _ _ l _ (OF.fs (fun _ => rfl) o11) o11.capB (i64_bd wfr)).mono ?_
    rintro e w12 ⟨⟨a12, c12, rfl, o12⟩, b12⟩
    have z12 := b12.size
    go_wp2_with fail
    refine (eqIntS_any _ _ _ _ _ _ _ _ _ (OI.is o12) ((i2.keepB ((((((((((b3.mono (by omega)).trans (b4.mono (by omega))).trans (b5.mono (by omega))).trans (b6.mono (by omega))).trans (b7.mono (by omega))).trans (b8.mono (by omega))).trans (b9.mono (by omega))).trans (b10.mono (by omega))).trans (b11.mono (by omega))).trans (b12.mono (by omega))) (Nat.le_refl _)).mono (by omega))).mono ?_
    rintro e w13 ⟨rfl, b13⟩
    have z13 := b13.size
    have og13 := og10.keep (((b11.mono (by omega)).trans (b12.mono (by omega))).trans (b13.mono (by omega)))
    go_wp2_with fail
    refine (heldIntS_any _ _ _ _ _ og13.is (by omega) (by omega) (by omega)).mono ?_
    rintro e wx ⟨rfl, rfl⟩
    go_wp2_with fail
    go_ret
    exact ⟨rfl, (((((((((((((b1.mono (by omega)).trans (b2.mono (by omega))).trans (b3.mono (by omega))).trans (b4.mono (by omega))).trans (b5.mono (by omega))).trans (b6.mono (by omega))).trans (b7.mono (by omega))).trans (b8.mono (by omega))).trans (b9.mono (by omega))).trans (b10.mono (by omega))).trans (b11.mono (by omega))).trans (b12.mono (by omega))).trans (b13.mono (by omega)))⟩

end Go.Proofs.Ytddfdomhapaefaa
