/- The law on the amounts of a route walked. -/
import Derived.Test.YtddfdomhapaefaaRFee
namespace Go.Proofs.Ytddfdomhapaefaa
open Go.RowKit
set_option linter.unusedVariables false
set_option linter.unusedSimpArgs false

set_option maxHeartbeats 4000000 in
theorem walk_FnExactRouteAmts (a : Option Addr) (len cap : Nat) (l : List Rd) (a' : Option Addr) (len' cap' : Nat) (xs : List Int) (n : Int) (wn : (Lit.int .i64 n).wf = true) (w : World) (S0 : RdS w w.heap.size a len l) (S1 : IS w w.heap.size a' len' xs) :
    Calls Try.prog 13 #[.slice a len cap, .slice a' len' cap', .int .i64 n] w fun e w' => e = .returned (.bool true) ∧ Below w.heap.size w w' := by
  have hlr := rAmtsS_len l xs n

  have hl := S0.lenB
  have hl2 := S1.len
  by_cases h1 : len' ≤ 1048576
  · by_cases h : (1048576 : Int) - (len : Int) < 0
    · go_enter Try.func13, Try.ntmps13
      go_wp2_with (((go_at_call 23; refine (szRoadS_any _ _ _ _ _ (by assumption) (by omega) (by omega)).mono ?_); rintro e w1 ⟨rfl, rfl⟩))
      go_ret
      exact ⟨rfl, Below.refl _ _⟩
    · have h0 : len ≤ 1048576 := by omega
      go_enter Try.func13, Try.ntmps13
      go_wp2_with fail
      refine (szRoadS_any _ _ _ _ _ hl (by omega) (by omega)).mono ?_
      rintro e wx ⟨rfl, rfl⟩
      go_wp2_with fail
      refine (toRoadS_any _ _ _ l _ (FS.mono (FS.keepB S0 (Below.refl w.heap.size w) (Nat.le_refl _)) (by omega)) h0).mono ?_
      rintro e w1 ⟨⟨a1, c1, rfl, o1⟩, b1⟩
      have z1 := b1.size
      have lt1 := OF.lt o1
      go_wp2_with fail
      refine (toIntS_any _ _ _ xs _ ((S1.keepB (b1.mono (by omega)) (Nat.le_refl _)).mono (by omega)) h1).mono ?_
      rintro e w2 ⟨⟨a2, c2, rfl, o2⟩, b2⟩
      have z2 := b2.size
      have lt2 := OI.lt o2
      go_wp2_with fail
      refine (routeAmts_spec _ _ _ _ _ _ _ l xs _ (OF.fs (fun _ => rfl) (o1.keep (b2.mono (by omega)))) (OI.is o2)).mono ?_
      rintro e w3 ⟨⟨a3, c3, rfl, o3⟩, b3⟩
      have z3 := b3.size
      have i3 := o3.is
      go_wp2_with fail
      refine (toRoadS_any _ _ _ l _ (FS.mono (FS.keepB S0 (((b1.mono (by omega)).trans (b2.mono (by omega))).trans (b3.mono (by omega))) (Nat.le_refl _)) (by omega)) h0).mono ?_
      rintro e w4 ⟨⟨a4, c4, rfl, o4⟩, b4⟩
      have z4 := b4.size
      have lt4 := OF.lt o4
      go_wp2_with fail
      refine (toIntS_any _ _ _ xs _ ((S1.keepB ((((b1.mono (by omega)).trans (b2.mono (by omega))).trans (b3.mono (by omega))).trans (b4.mono (by omega))) (Nat.le_refl _)).mono (by omega)) h1).mono ?_
      rintro e w5 ⟨⟨a5, c5, rfl, o5⟩, b5⟩
      have z5 := b5.size
      have lt5 := OI.lt o5
      go_wp2_with fail
      refine (routeAmtsA_impl _ _ _ _ _ _ _ l xs _ (OF.fs (fun _ => rfl) (o4.keep (b5.mono (by omega)))) (OI.is o5) o4.capB).mono ?_
      rintro e w6 ⟨⟨a6, c6, rfl, o6⟩, b6⟩
      have z6 := b6.size
      go_wp2_with fail
      refine (eqIntS_any _ _ _ _ _ _ _ _ _ (OI.is o6) ((i3.keepB (((b4.mono (by omega)).trans (b5.mono (by omega))).trans (b6.mono (by omega))) (Nat.le_refl _)).mono (by omega))).mono ?_
      rintro e w7 ⟨rfl, b7⟩
      have z7 := b7.size
      go_wp2_with fail
      refine (toRoadS_any _ _ _ l _ (FS.mono (FS.keepB S0 (((((((b1.mono (by omega)).trans (b2.mono (by omega))).trans (b3.mono (by omega))).trans (b4.mono (by omega))).trans (b5.mono (by omega))).trans (b6.mono (by omega))).trans (b7.mono (by omega))) (Nat.le_refl _)) (by omega)) h0).mono ?_
      rintro e w8 ⟨⟨a8, c8, rfl, o8⟩, b8⟩
      have z8 := b8.size
      have lt8 := OF.lt o8
      go_wp2_with fail
      refine (eqRoadS_any _ _ _ _ _ _ _ (OF.fs (fun _ => rfl) (o4.keep ((((b5.mono (by omega)).trans (b6.mono (by omega))).trans (b7.mono (by omega))).trans (b8.mono (by omega))))) (OF.fs (fun _ => rfl) o8)).mono ?_
      rintro e w9 ⟨rfl, b9⟩
      have z9 := b9.size
      go_wp2_with fail
      refine (toIntS_any _ _ _ xs _ ((S1.keepB (((((((((b1.mono (by omega)).trans (b2.mono (by omega))).trans (b3.mono (by omega))).trans (b4.mono (by omega))).trans (b5.mono (by omega))).trans (b6.mono (by omega))).trans (b7.mono (by omega))).trans (b8.mono (by omega))).trans (b9.mono (by omega))) (Nat.le_refl _)).mono (by omega)) h1).mono ?_
      rintro e w10 ⟨⟨a10, c10, rfl, o10⟩, b10⟩
      have z10 := b10.size
      have lt10 := OI.lt o10
      go_wp2_with fail
      refine (eqIntS_any _ _ _ _ _ _ _ _ _ (OI.is (o5.keep (((((b6.mono (by omega)).trans (b7.mono (by omega))).trans (b8.mono (by omega))).trans (b9.mono (by omega))).trans (b10.mono (by omega))))) (OI.is o10)).mono ?_
      rintro e w11 ⟨rfl, b11⟩
      have z11 := b11.size
      have og11 := o6.keep (((((b7.mono (by omega)).trans (b8.mono (by omega))).trans (b9.mono (by omega))).trans (b10.mono (by omega))).trans (b11.mono (by omega)))
      have ox11y1 := o5.keep ((((((b6.mono (by omega)).trans (b7.mono (by omega))).trans (b8.mono (by omega))).trans (b9.mono (by omega))).trans (b10.mono (by omega))).trans (b11.mono (by omega)))
      go_wp2_with fail
      refine (markRoadS_any w3.heap.size _ _ _ _ _ _ (o4.keep (((((((b5.mono (by omega)).trans (b6.mono (by omega))).trans (b7.mono (by omega))).trans (b8.mono (by omega))).trans (b9.mono (by omega))).trans (b10.mono (by omega))).trans (b11.mono (by omega)))) (by omega) (by omega) (by omega)).mono ?_
      rintro e w12 ⟨rfl, b12, g12⟩
      have z12 := b12.size
      have og12 := og11.only g12 (fun p hp => Nat.lt_of_lt_of_le (lt4 p hp) (by omega))
      have oz12y1 := ox11y1.only g12 (fun p hp => Nat.lt_of_lt_of_le (lt4 p hp) (by omega))
      have og12 := og12.keep (Below.refl w12.heap.size w12)
      go_wp2_with fail
      refine (markIntS_any w4.heap.size _ _ _ _ _ _ (oz12y1.keep (Below.refl w12.heap.size w12)) (by omega) (by omega) (by omega) (by omega)).mono ?_
      rintro e w13 ⟨rfl, -, b13, g13⟩
      have z13 := b13.size
      have og13 := og12.only g13 (fun p hp => Nat.lt_of_lt_of_le (lt5 p hp) (by omega))
      go_wp2_with fail
      refine (eqIntS_any _ _ _ _ _ _ _ _ _ (OI.is og13) ((i3.keepB ((((((((((b4.mono (by omega)).trans (b5.mono (by omega))).trans (b6.mono (by omega))).trans (b7.mono (by omega))).trans (b8.mono (by omega))).trans (b9.mono (by omega))).trans (b10.mono (by omega))).trans (b11.mono (by omega))).trans (b12.mono (by omega))).trans (b13.mono (by omega))) (Nat.le_refl _)).mono (by omega))).mono ?_
      rintro e w14 ⟨rfl, b14⟩
      have z14 := b14.size
      have og14 := og13.keep (b14.mono (by omega))
      go_wp2_with fail
      refine (markIntS_any w5.heap.size _ _ _ _ _ _ og14 (by omega) (by omega) (by omega) (by omega)).mono ?_
      rintro e w15 ⟨rfl, og15, b15, g15⟩
      have z15 := b15.size
      go_wp2_with fail
      refine (heldIntS_any _ _ _ _ _ og15.is (by omega) (by omega) (by omega)).mono ?_
      rintro e wx ⟨rfl, rfl⟩
      go_wp2_with fail
      refine (toRoadS_any _ _ _ l _ (FS.mono (FS.keepB S0 (((((((((((((((b1.mono (by omega)).trans (b2.mono (by omega))).trans (b3.mono (by omega))).trans (b4.mono (by omega))).trans (b5.mono (by omega))).trans (b6.mono (by omega))).trans (b7.mono (by omega))).trans (b8.mono (by omega))).trans (b9.mono (by omega))).trans (b10.mono (by omega))).trans (b11.mono (by omega))).trans (b12.mono (by omega))).trans (b13.mono (by omega))).trans (b14.mono (by omega))).trans (b15.mono (by omega))) (Nat.le_refl _)) (by omega)) h0).mono ?_
      rintro e w16 ⟨⟨a16, c16, rfl, o16⟩, b16⟩
      have z16 := b16.size
      have lt16 := OF.lt o16
      go_wp2_with fail
      refine (toIntS_any _ _ _ xs _ ((S1.keepB ((((((((((((((((b1.mono (by omega)).trans (b2.mono (by omega))).trans (b3.mono (by omega))).trans (b4.mono (by omega))).trans (b5.mono (by omega))).trans (b6.mono (by omega))).trans (b7.mono (by omega))).trans (b8.mono (by omega))).trans (b9.mono (by omega))).trans (b10.mono (by omega))).trans (b11.mono (by omega))).trans (b12.mono (by omega))).trans (b13.mono (by omega))).trans (b14.mono (by omega))).trans (b15.mono (by omega))).trans (b16.mono (by omega))) (Nat.le_refl _)).mono (by omega)) h1).mono ?_
      rintro e w17 ⟨⟨a17, c17, rfl, o17⟩, b17⟩
      have z17 := b17.size
      have lt17 := OI.lt o17
      go_wp2_with fail
      refine (routeAmtsA_impl _ _ _ _ _ _ _ l xs _ (OF.fs (fun _ => rfl) (o16.keep (b17.mono (by omega)))) (OI.is o17) o16.capB).mono ?_
      rintro e w18 ⟨⟨a18, c18, rfl, o18⟩, b18⟩
      have z18 := b18.size
      go_wp2_with fail
      refine (eqIntS_any _ _ _ _ _ _ _ _ _ (OI.is o18) ((i3.keepB (((((((((((((((b4.mono (by omega)).trans (b5.mono (by omega))).trans (b6.mono (by omega))).trans (b7.mono (by omega))).trans (b8.mono (by omega))).trans (b9.mono (by omega))).trans (b10.mono (by omega))).trans (b11.mono (by omega))).trans (b12.mono (by omega))).trans (b13.mono (by omega))).trans (b14.mono (by omega))).trans (b15.mono (by omega))).trans (b16.mono (by omega))).trans (b17.mono (by omega))).trans (b18.mono (by omega))) (Nat.le_refl _)).mono (by omega))).mono ?_
      rintro e w19 ⟨rfl, b19⟩
      have z19 := b19.size
      have og19 := og15.keep ((((b16.mono (by omega)).trans (b17.mono (by omega))).trans (b18.mono (by omega))).trans (b19.mono (by omega)))
      go_wp2_with fail
      refine (heldIntS_any _ _ _ _ _ og19.is (by omega) (by omega) (by omega)).mono ?_
      rintro e wx ⟨rfl, rfl⟩
      go_wp2_with fail
      go_ret
      exact ⟨rfl, (((((((((((((((((((b1.mono (by omega)).trans (b2.mono (by omega))).trans (b3.mono (by omega))).trans (b4.mono (by omega))).trans (b5.mono (by omega))).trans (b6.mono (by omega))).trans (b7.mono (by omega))).trans (b8.mono (by omega))).trans (b9.mono (by omega))).trans (b10.mono (by omega))).trans (b11.mono (by omega))).trans (b12.mono (by omega))).trans (b13.mono (by omega))).trans (b14.mono (by omega))).trans (b15.mono (by omega))).trans (b16.mono (by omega))).trans (b17.mono (by omega))).trans (b18.mono (by omega))).trans (b19.mono (by omega)))⟩
  · go_enter Try.func13, Try.ntmps13
    go_wp2
    go_ret
    exact ⟨rfl, Below.refl _ _⟩

end Go.Proofs.Ytddfdomhapaefaa
