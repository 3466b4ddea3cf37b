/- The library's division of two words by one. -/
import Derived.Test.YtegnlijgjcfmlaaDoorAmt
import Derived.Test.YtegnlijgjcfmlaaDoorKnuth
import Derived.Test.YtegnlijgjcfmlaaDoorShelf
import Derived.Lib.ItoaNum
import Derived.Laws.BitsAllLaws
import Derived.Deep.CutBlock
import Derived.Deep.DeepCutAuto
import Derived.Laws.MathBits
namespace Go.Proofs.YtegnlijgjcfmlaaDoor
open Go.RowKit
set_option linter.unusedVariables false
set_option linter.unusedSimpArgs false

theorem wrap_u64_in {n : Int} (h0 : 0 ≤ n) (h1 : n ≤ 18446744073709551615) : IntKind.u64.wrap n = n := IntWalk.u64_in n ⟨h0, h1⟩
theorem bitLen_bd {x : Nat} (h0 : 0 < x) (h : x < 18446744073709551616) : 1 ≤ Lib.bitLen x ∧ Lib.bitLen x ≤ 64 ∧ 2 ^ (Lib.bitLen x - 1) ≤ x ∧ x < 2 ^ Lib.bitLen x := by
  have hb := Lib.bitLenAux_bounds 64 x (by omega) (by omega)
  refine ⟨hb.1, ?_, hb.2⟩
  rcases Nat.lt_or_ge 64 (Lib.bitLenAux 64 x) with h1 | h1
  · have : 2 ^ 64 ≤ 2 ^ (Lib.bitLenAux 64 x - 1) := Nat.pow_le_pow_right (by omega) (by omega)
    have := hb.2.1
    omega
  · exact h1

theorem lz64_lib (y s : Nat) (hs : Hid (Lib.bitLen y + s = 64)) (hy : y < 18446744073709551616) (w : World) : Calls Tryd.prog 158 #[.int .u64 y] w fun e w' => e = .returned (.int .i64 (s : Int)) ∧ w = w' :=
  (Tryd.bits_LeadingZeros64 y w (by omega) (by omega)).mono fun e w' ⟨he, hw⟩ => ⟨by rw [he, show ((y : Nat) : Int).toNat = y from rfl]; exact ret_int (by have := hs.out; omega), hw.symm⟩
theorem norm_bd {y : Nat} (h0 : 0 < y) (hy : y < 18446744073709551616) : ∃ s : Nat, s ≤ 63 ∧ Hid (Lib.bitLen y + s = 64) ∧ 9223372036854775808 ≤ y * 2 ^ s ∧ y * 2 ^ s < 18446744073709551616 := by
  have hb := bitLen_bd h0 hy
  refine ⟨64 - Lib.bitLen y, by omega, by unfold Hid; omega, ?_, ?_⟩
  · have : 2 ^ (Lib.bitLen y - 1) * 2 ^ (64 - Lib.bitLen y) ≤ y * 2 ^ (64 - Lib.bitLen y) := Nat.mul_le_mul_right _ hb.2.2.1
    rw [← Nat.pow_add, show Lib.bitLen y - 1 + (64 - Lib.bitLen y) = 63 by omega] at this
    exact this
  · have : y * 2 ^ (64 - Lib.bitLen y) < 2 ^ Lib.bitLen y * 2 ^ (64 - Lib.bitLen y) := Nat.mul_lt_mul_of_pos_right hb.2.2.2 (Nat.two_pow_pos _)
    rw [← Nat.pow_add, show Lib.bitLen y + (64 - Lib.bitLen y) = 64 by omega] at this
    exact this

theorem low_mask (n : Nat) (h : n < 18446744073709551616) : bits BinOp.and IntKind.u64 (n : Int) 4294967295 = ((n % 4294967296 : Nat) : Int) := by
  rw [and_low32 (n : Int) (by omega) (by omega)]; omega
theorem shl_in {n : Nat} (h : n < 18446744073709551616) : IntKind.u64.wrap (n : Int) = (n : Int) := wrap_u64_in (by omega) (by omega)
theorem or_nat {h l : Nat} (hh : h < 18446744073709551616) (hl : l < 18446744073709551616) : bits BinOp.or IntKind.u64 (IntKind.u64.wrap (h : Int)) (l : Int) = ((h ||| l : Nat) : Int) := by
  rw [shl_in hh, u64_or _ _ (by omega) (by omega) (by omega) (by omega)]
  rfl
theorem wrap_sub (a b c : Int) : IntKind.u64.wrap (IntKind.u64.wrap (IntKind.u64.wrap a + b) - IntKind.u64.wrap c) = IntKind.u64.wrap (a + b - c) := by
  simp only [IntKind.wrap_u64]; omega
theorem wrap_add (a b : Int) : IntKind.u64.wrap (IntKind.u64.wrap a + b) = IntKind.u64.wrap (a + b) := by
  simp only [IntKind.wrap_u64]; omega
/-- the rest, whatever wraps on the way -/
theorem rest_wrap {n2 n1 Q Y U : Nat} (hQ : Q = (n2 * 4294967296 + n1) / Y) (hU : U = (n2 * 4294967296 + n1) % Y) (h : U < 18446744073709551616) :
    IntKind.u64.wrap (IntKind.u64.wrap (IntKind.u64.wrap ((n2 : Int) * 4294967296) + n1) - IntKind.u64.wrap ((Q : Int) * Y)) = (U : Int) := by
  have h1 := Nat.div_add_mod (n2 * 4294967296 + n1) Y
  rw [← hQ, ← hU] at h1
  rw [wrap_sub, ← shl_in h]
  congr 1
  have h2 : ((Y * Q + U : Nat) : Int) = ((n2 * 4294967296 + n1 : Nat) : Int) := by rw [h1]
  rw [Int.natCast_add, Int.natCast_mul] at h2
  rw [Int.mul_comm (Q : Int)]
  omega
/-- the high word, shifted, and the low word's upper bits -/
theorem or_high {hi lo s : Nat} (hs : s ≤ 63) (h : hi * 2 ^ s + lo / 2 ^ (64 - s) < 18446744073709551616) (hl : lo < 18446744073709551616) :
    bits BinOp.or IntKind.u64 (IntKind.u64.wrap ((hi : Int) * 2 ^ s)) ((lo : Int) / 2 ^ (64 - s)) = ((hi * 2 ^ s + lo / 2 ^ (64 - s) : Nat) : Int) := by
  have h1 : lo / 2 ^ (64 - s) < 2 ^ s := by
    rw [Nat.div_lt_iff_lt_mul (Nat.two_pow_pos _), ← Nat.pow_add, show s + (64 - s) = 64 by omega]; exact hl
  have e1 : ((hi : Int) * 2 ^ s) = ((hi * 2 ^ s : Nat) : Int) := by push_cast; rfl
  have e2 : ((lo : Int) / 2 ^ (64 - s)) = ((lo / 2 ^ (64 - s) : Nat) : Int) := by push_cast; rfl
  rw [e1, e2, or_nat (Nat.lt_of_le_of_lt (Nat.le_add_right _ _) h) (Nat.lt_of_le_of_lt (Nat.le_add_left _ _) h), Nat.mul_comm, ← Nat.two_pow_add_eq_or_of_lt h1]
theorem shift_parts {hi lo s : Nat} (hs : s ≤ 63) (hl : lo < 18446744073709551616) : (hi * 18446744073709551616 + lo) * 2 ^ s = (hi * 2 ^ s + lo / 2 ^ (64 - s)) * 18446744073709551616 + lo * 2 ^ s % 18446744073709551616 := by
  have e : (18446744073709551616 : Nat) = 2 ^ (64 - s) * 2 ^ s := by rw [← Nat.pow_add, show 64 - s + s = 64 by omega]
  have h1 : lo * 2 ^ s / 18446744073709551616 = lo / 2 ^ (64 - s) := by rw [e, Nat.mul_div_mul_right _ _ (Nat.two_pow_pos _)]
  have h2 := Nat.div_add_mod (lo * 2 ^ s) 18446744073709551616
  rw [h1] at h2
  rw [Nat.add_mul, Nat.add_mul, Nat.mul_right_comm]
  omega

set_option maxRecDepth 100000 in
set_option maxHeartbeats 4000000 in
theorem div64_lib (hi lo y : Nat) (w : World) (h : hi < y) (hy : y < 18446744073709551616) (hl : lo < 18446744073709551616) :
    Calls Tryd.prog 147 #[.int .u64 hi, .int .u64 lo, .int .u64 y] w fun e w' => e = .returned (.tuple #[.int .u64 (((hi * 18446744073709551616 + lo) / y : Nat) : Int), .int .u64 (((hi * 18446744073709551616 + lo) % y : Nat) : Int)]) ∧ Below w.heap.size w w' := by
  by_cases h0 : hi = 0
  · subst h0
    go_enter Tryd.func147, Tryd.ntmps147
    go_wp2
    go_quiet (fail)
    go_wp2
    go_ret2
    exact ⟨by rw [wrap_u64_in (Int.ediv_nonneg (by omega) (by omega)) (Int.le_trans (Int.ediv_le_self _ (by omega)) (by omega))]; simp, below_drewN (Below.refl _ _)⟩
  · obtain ⟨s, hs, Hs, hn1, hn2⟩ := norm_bd (show 0 < y by omega) hy
    obtain ⟨F, hF⟩ : ∃ n : Nat, n = (hi * 18446744073709551616 + lo) / y := ⟨_, rfl⟩
    obtain ⟨G, hG⟩ : ∃ n : Nat, n = (hi * 18446744073709551616 + lo) % y := ⟨_, rfl⟩
    have hF2 : F < 18446744073709551616 := by
      rw [hF, Nat.div_lt_iff_lt_mul (by omega)]
      omega
    rw [← hF, ← hG]
    have HF := Lib.hid hF
    have HG := Lib.hid hG
    clear hF hG
    obtain ⟨Y, hY⟩ : ∃ Y : Nat, Y = y * 2 ^ s := ⟨_, rfl⟩
    rw [← hY] at hn1 hn2
    have E1 : IntKind.u64.wrap ((y : Int) * 2 ^ s) = (Y : Int) := by rw [← shl_in hn2, hY]; push_cast; rfl
    obtain ⟨n2, hn⟩ : ∃ n : Nat, n = hi * 2 ^ s + lo / 2 ^ (64 - s) := ⟨_, rfl⟩
    have hlt : n2 < Y := by
      have h1 := shift_parts (hi := hi) hs hl
      rw [← hn] at h1
      have h2 : (hi * 18446744073709551616 + lo) * 2 ^ s < y * 18446744073709551616 * 2 ^ s := Nat.mul_lt_mul_of_pos_right (by omega) (Nat.two_pow_pos _)
      rw [Nat.mul_right_comm, ← hY] at h2
      omega
    have E2 : bits BinOp.or IntKind.u64 (IntKind.u64.wrap ((hi : Int) * 2 ^ s)) ((lo : Int) / 2 ^ (64 - s)) = (n2 : Int) := by rw [or_high hs (by omega) hl, hn]
    obtain ⟨L, hL⟩ : ∃ L : Nat, L = lo * 2 ^ s % 18446744073709551616 := ⟨_, rfl⟩
    have hL2 : L < 18446744073709551616 := by rw [hL]; exact Nat.mod_lt _ (by omega)
    have E3 : IntKind.u64.wrap ((lo : Int) * 2 ^ s) = (L : Int) := by rw [IntKind.wrap_u64, hL, Int.natCast_emod, Int.natCast_mul, Int.natCast_pow]; rfl
    have Hu : Hid ((hi * 18446744073709551616 + lo) * 2 ^ s = n2 * 18446744073709551616 + L) := by unfold Hid; rw [shift_parts hs hl, hn, hL]
    have HY := Lib.hid hY
    clear hn hL hY
    obtain ⟨d1, hd1⟩ : ∃ n : Nat, n = Y / 4294967296 := ⟨_, rfl⟩
    obtain ⟨d0, hd0⟩ : ∃ n : Nat, n = Y % 4294967296 := ⟨_, rfl⟩
    obtain ⟨n1, hm1⟩ : ∃ n : Nat, n = L / 4294967296 := ⟨_, rfl⟩
    obtain ⟨n0, hm0⟩ : ∃ n : Nat, n = L % 4294967296 := ⟨_, rfl⟩
    have HYd : Hid (Y = d1 * 4294967296 + d0) := by unfold Hid; omega
    have HLd : Hid (L = n1 * 4294967296 + n0) := by unfold Hid; omega
    have E4 : (Y : Int) / 4294967296 = (d1 : Int) := by omega
    have E5 : bits BinOp.and IntKind.u64 (Y : Int) 4294967295 = (d0 : Int) := by rw [low_mask _ hn2, hd0]
    have E6 : (L : Int) / 4294967296 = (n1 : Int) := by omega
    have E7 : bits BinOp.and IntKind.u64 (L : Int) 4294967295 = (n0 : Int) := by rw [low_mask _ hL2, hm0]
    have b1 : 2147483648 ≤ d1 ∧ d1 < 4294967296 := by omega
    have b2 : d0 < 4294967296 := by omega
    have b3 : n1 < 4294967296 := by omega
    have b4 : n0 < 4294967296 := by omega
    have hst := Knuth.start (B := 4294967296) (n1 := n1) (d1 := d1) (d0 := d0) (n2 := n2) (by omega) b2 b1.2 b3 (by have := HYd.out; omega)
    obtain ⟨q0, hq0⟩ : ∃ n : Nat, n = n2 / d1 := ⟨_, rfl⟩
    obtain ⟨r0, hr0⟩ : ∃ n : Nat, n = n2 % d1 := ⟨_, rfl⟩
    obtain ⟨p0, hp0⟩ : ∃ n : Nat, n = n2 / d1 * d1 := ⟨_, rfl⟩
    rw [← hp0, ← hr0, ← hq0, ← HYd.out] at hst
    obtain ⟨hst1, hst2, hst3', hst4⟩ := hst
    have hst3 : q0 ≤ 4294967297 := hst3'
    clear hst3'
    have E8 : (n2 : Int) / d1 = (q0 : Int) := by rw [hq0]; push_cast; rfl
    have E9 : IntKind.u64.wrap ((q0 : Int) * d1) = (p0 : Int) := by rw [← shl_in (n := p0) (by omega), hp0, hq0]; push_cast; rfl
    have E10 : (n2 : Int) - p0 = (r0 : Int) := by omega
    have Hst : Hid (q0 * d1 + r0 = n2) := by unfold Hid; rw [hq0, ← hp0]; exact hst1
    have Hst2 := Lib.hid hst2
    clear hst2 hst1 hq0 hr0 hp0 hd1 hd0 hm1 hm0
    go_enter Tryd.func147, Tryd.ntmps147
    go_wp2_with (fail)
    refine (lz64_lib y s Hs hy _).mono ?_
    rintro e w' ⟨rfl, rfl⟩
    obtain ⟨Q1, hQ1⟩ : ∃ n : Nat, n = (n2 * 4294967296 + n1) / Y := ⟨_, rfl⟩
    rw [← hQ1] at Hst2
    have HQ1 := Lib.hid hQ1
    clear hQ1
    go_upto_block 0 with fail
    go_cut [15] (fun s15 wx => s15 = .int .u64 Q1 ∧ w = wx)
    case first =>
      go_wp2_with fail
      go_loop [15, 16] (fun q r => ∃ q' r' : Nat, q = .int .u64 q' ∧ r = .int .u64 r' ∧ q' ≤ 4294967297 ∧ r' < 4294967296 ∧ Hid (q' * d1 + r' = n2) ∧ Hid (Q1 ≤ q')) (fun q _ => (intOf q).toNat)
      case atStart => exact ⟨q0, r0, rfl, rfl, hst3, hst4, Hst, Hst2⟩
      case round =>
        obtain ⟨q, r, rfl, rfl, hq, hr, h1, h2⟩ := hrel
        clear E1 E2 E3 E4 E5 E6 E7 E8 E9 E10 hst3 hst4 Hst Hst2
        by_cases hbig : 4294967296 ≤ q
        · have hd := Knuth.down (n1 := n1) b3 (by rw [← HYd.out]; exact hlt) h1.out (.inl hbig)
          rw [← HYd.out, ← HQ1.out] at hd
          obtain ⟨hd0, hd1, hd2⟩ := hd
          have Hd1 := Lib.hid hd1
          have Hd2 := Lib.hid hd2
          clear hd1 hd2
          by_cases hbr : 4294967296 ≤ r + d1
          · have Hq : Hid (q - 1 = Q1) := by
              unfold Hid
              rw [HQ1.out, HYd.out]
              exact Knuth.done (by rw [← HYd.out]; exact hlt) Hd1.out (by rw [← HYd.out, ← HQ1.out]; exact Hd2.out) (Knuth.brk (by omega) b2 hbr)
            clear Hd1 Hd2 h1 h2
            have k2 : (q : Int) ≤ 4294967297 := by omega
            have k4 : (r : Int) < 4294967296 := by omega
            have k5 : (d1 : Int) < 4294967296 := by omega
            have k6 : (n1 : Int) < 4294967296 := by omega
            have k1 : (4294967296 : Int) ≤ q := by omega
            have k7 : (1 : Int) ≤ q := by omega
            have k3 : (4294967296 : Int) ≤ r + d1 := by omega
            clear hbig hq hr b1 b2 b3 b4 hbr hd0
            go_wp2
            go_meet
            exact ⟨by rw [← Hq.out]; go_num, rfl⟩
          · have k2 : (q : Int) ≤ 4294967297 := by omega
            have k4 : (r : Int) < 4294967296 := by omega
            have k5 : (d1 : Int) < 4294967296 := by omega
            have k6 : (n1 : Int) < 4294967296 := by omega
            have k1 : (4294967296 : Int) ≤ q := by omega
            have k7 : (1 : Int) ≤ q := by omega
            have k3 : ¬ ((4294967296 : Int) ≤ r + d1) := by omega
            clear hbig hq hr b1 b2 b3 b4 hbr hd0
            go_wp2
            go_round
            case rel => exact ⟨q - 1, r + d1, by go_num, by go_num, by omega, by omega, Hd1, Hd2⟩
            case measure => simp [intOf] <;> omega
        · obtain ⟨p, hp⟩ : ∃ p : Nat, p = q * d0 := ⟨_, rfl⟩
          have hp2 : p < 18446744073709551616 := by
            rw [hp]
            have := Nat.mul_le_mul (show q ≤ 4294967295 by omega) (show d0 ≤ 4294967295 by omega)
            omega
          have E11 : IntKind.u64.wrap ((q : Int) * d0) = (p : Int) := by rw [← shl_in hp2, hp, Int.natCast_mul]
          have Hp := Lib.hid hp
          clear hp
          by_cases hgt : 4294967296 * r + n1 < p
          · have hd := Knuth.down (n1 := n1) b3 (by rw [← HYd.out]; exact hlt) h1.out (.inr (by rw [← Hp.out]; exact hgt))
            rw [← HYd.out, ← HQ1.out] at hd
            obtain ⟨hd0, hd1, hd2⟩ := hd
            have Hd1 := Lib.hid hd1
            have Hd2 := Lib.hid hd2
            clear hd1 hd2
            by_cases hbr : 4294967296 ≤ r + d1
            · have Hq : Hid (q - 1 = Q1) := by
                unfold Hid
                rw [HQ1.out, HYd.out]
                exact Knuth.done (by rw [← HYd.out]; exact hlt) Hd1.out (by rw [← HYd.out, ← HQ1.out]; exact Hd2.out) (Knuth.brk (by omega) b2 hbr)
              clear Hd1 Hd2 h1 h2
              have k2 : (q : Int) ≤ 4294967297 := by omega
              have k4 : (r : Int) < 4294967296 := by omega
              have k5 : (d1 : Int) < 4294967296 := by omega
              have k6 : (n1 : Int) < 4294967296 := by omega
              have k1 : ¬ ((4294967296 : Int) ≤ q) := by omega
              have k8 : (4294967296 : Int) * r + n1 < p := by omega
              have k9 : (p : Int) < 18446744073709551616 := by omega
              have k7 : (1 : Int) ≤ q := by omega
              have k3 : (4294967296 : Int) ≤ r + d1 := by omega
              clear hbig hq hr b1 b2 b3 b4 hbr hd0 hgt hp2
              go_wp2
              go_meet
              exact ⟨by rw [← Hq.out]; go_num, rfl⟩
            · have k2 : (q : Int) ≤ 4294967297 := by omega
              have k4 : (r : Int) < 4294967296 := by omega
              have k5 : (d1 : Int) < 4294967296 := by omega
              have k6 : (n1 : Int) < 4294967296 := by omega
              have k1 : ¬ ((4294967296 : Int) ≤ q) := by omega
              have k8 : (4294967296 : Int) * r + n1 < p := by omega
              have k9 : (p : Int) < 18446744073709551616 := by omega
              have k7 : (1 : Int) ≤ q := by omega
              have k3 : ¬ ((4294967296 : Int) ≤ r + d1) := by omega
              clear hbig hq hr b1 b2 b3 b4 hbr hd0 hgt hp2
              go_wp2
              go_round
              case rel => exact ⟨q - 1, r + d1, by go_num, by go_num, by omega, by omega, Hd1, Hd2⟩
              case measure => simp [intOf] <;> omega
          · have Hq : Hid (q = Q1) := by
              unfold Hid
              rw [HQ1.out, HYd.out]
              exact Knuth.done (by rw [← HYd.out]; exact hlt) h1.out (by rw [← HYd.out, ← HQ1.out]; exact h2.out) (by rw [← Hp.out]; omega)
            clear h1 h2
            have k2 : (q : Int) ≤ 4294967297 := by omega
            have k4 : (r : Int) < 4294967296 := by omega
            have k5 : (d1 : Int) < 4294967296 := by omega
            have k6 : (n1 : Int) < 4294967296 := by omega
            have k1 : ¬ ((4294967296 : Int) ≤ q) := by omega
            have k8 : ¬ ((4294967296 : Int) * r + n1 < p) := by omega
            have k9 : (p : Int) < 18446744073709551616 := by omega
            clear hbig hq hr b1 b2 b3 b4 hgt hp2
            go_wp2
            go_meet
            exact ⟨by rw [← Hq.out], rfl⟩
    case rest =>
      obtain ⟨rfl, rfl⟩ := hcut
      obtain ⟨U, hU0⟩ : ∃ n : Nat, n = (n2 * 4294967296 + n1) % Y := ⟨_, rfl⟩
      have hU : U < Y := by rw [hU0]; exact Nat.mod_lt _ (by omega)
      have E21 := rest_wrap HQ1.out hU0 (by omega)
      have HU := Lib.hid hU0
      clear hU0
      have hst := Knuth.start (B := 4294967296) (n1 := n0) (d1 := d1) (d0 := d0) (n2 := U) (by omega) b2 b1.2 b4 (by have := HYd.out; omega)
      obtain ⟨q1, hq1⟩ : ∃ n : Nat, n = U / d1 := ⟨_, rfl⟩
      obtain ⟨r1, hr1⟩ : ∃ n : Nat, n = U % d1 := ⟨_, rfl⟩
      obtain ⟨p1, hp1⟩ : ∃ n : Nat, n = U / d1 * d1 := ⟨_, rfl⟩
      obtain ⟨Q0, hQ0⟩ : ∃ n : Nat, n = (U * 4294967296 + n0) / Y := ⟨_, rfl⟩
      rw [← hp1, ← hr1, ← hq1, ← HYd.out, ← hQ0] at hst
      obtain ⟨hst1, hst2, hst3', hst4⟩ := hst
      have hst3 : q1 ≤ 4294967297 := hst3'
      clear hst3'
      have E22 : (U : Int) / d1 = (q1 : Int) := by rw [hq1]; push_cast; rfl
      have E23 : IntKind.u64.wrap ((q1 : Int) * d1) = (p1 : Int) := by rw [← shl_in (n := p1) (by omega), hp1, hq1]; push_cast; rfl
      have E24 : (U : Int) - p1 = (r1 : Int) := by omega
      have Hst3 : Hid (q1 * d1 + r1 = U) := by unfold Hid; rw [hq1, ← hp1]; exact hst1
      have Hst4 := Lib.hid hst2
      obtain ⟨R, hR⟩ : ∃ n : Nat, n = (U * 4294967296 + n0) % Y := ⟨_, rfl⟩
      have hR2 : R < Y := by rw [hR]; exact Nat.mod_lt _ (by omega)
      have E25 := rest_wrap hQ0 hR (by omega)
      have htwo := Knuth.two (n2 := n2) (n1 := n1) (n0 := n0) (y := Y) (B := 4294967296) (by omega)
      rw [← HU.out, ← HQ1.out, ← hQ0, ← hR, show (n2 * 4294967296 + n1) * 4294967296 + n0 = (hi * 18446744073709551616 + lo) * 2 ^ s by rw [Hu.out, HLd.out]; omega, HY.out,
        Nat.mul_div_mul_right _ _ (Nat.two_pow_pos _), Nat.mul_mod_mul_right] at htwo
      rw [← HF.out, ← HG.out] at htwo
      have E26 : IntKind.u64.wrap (IntKind.u64.wrap ((Q1 : Int) * 4294967296) + Q0) = (F : Int) := by
        rw [wrap_add, ← shl_in hF2]; congr 1; omega
      have E27 : (R : Int) / 2 ^ s = (G : Int) := by
        rw [htwo.2, Int.natCast_mul, Int.natCast_pow]
        exact Int.mul_ediv_cancel _ (Int.ne_of_gt (Int.pow_pos (by decide)))
      have HQ0 := Lib.hid hQ0
      clear hst2 hst1 hq1 hr1 hp1 hQ0 hR htwo
      go_upto_block 2 with fail
      go_cut [18] (fun s18 wx => s18 = .int .u64 Q0 ∧ w = wx)
      case first =>
        go_wp2_with fail
        go_loop [18, 16] (fun q r => ∃ q' r' : Nat, q = .int .u64 q' ∧ r = .int .u64 r' ∧ q' ≤ 4294967297 ∧ r' < 4294967296 ∧ Hid (q' * d1 + r' = U) ∧ Hid (Q0 ≤ q')) (fun q _ => (intOf q).toNat)
        case atStart => exact ⟨q1, r1, rfl, rfl, hst3, hst4, Hst3, Hst4⟩
        case round =>
          obtain ⟨q, r, rfl, rfl, hq, hr, h1, h2⟩ := hrel
          clear E1 E2 E3 E4 E5 E6 E7 E8 E9 E10 E21 E22 E23 E24 E25 E26 E27 hst3 hst4 Hst Hst2 Hst3 Hst4
          by_cases hbig : 4294967296 ≤ q
          · have hd := Knuth.down (n1 := n0) b4 (by rw [← HYd.out]; exact hU) h1.out (.inl hbig)
            rw [← HYd.out, ← HQ0.out] at hd
            obtain ⟨hd0, hd1, hd2⟩ := hd
            have Hd1 := Lib.hid hd1
            have Hd2 := Lib.hid hd2
            clear hd1 hd2
            by_cases hbr : 4294967296 ≤ r + d1
            · have Hq : Hid (q - 1 = Q0) := by
                unfold Hid
                rw [HQ0.out, HYd.out]
                exact Knuth.done (by rw [← HYd.out]; exact hU) Hd1.out (by rw [← HYd.out, ← HQ0.out]; exact Hd2.out) (Knuth.brk (by omega) b2 hbr)
              clear Hd1 Hd2 h1 h2
              have k2 : (q : Int) ≤ 4294967297 := by omega
              have k4 : (r : Int) < 4294967296 := by omega
              have k5 : (d1 : Int) < 4294967296 := by omega
              have k6 : (n0 : Int) < 4294967296 := by omega
              have k1 : (4294967296 : Int) ≤ q := by omega
              have k7 : (1 : Int) ≤ q := by omega
              have k3 : (4294967296 : Int) ≤ r + d1 := by omega
              clear hbig hq hr b1 b2 b3 b4 hbr hd0
              go_wp2
              go_meet
              exact ⟨by rw [← Hq.out]; go_num, rfl⟩
            · have k2 : (q : Int) ≤ 4294967297 := by omega
              have k4 : (r : Int) < 4294967296 := by omega
              have k5 : (d1 : Int) < 4294967296 := by omega
              have k6 : (n0 : Int) < 4294967296 := by omega
              have k1 : (4294967296 : Int) ≤ q := by omega
              have k7 : (1 : Int) ≤ q := by omega
              have k3 : ¬ ((4294967296 : Int) ≤ r + d1) := by omega
              clear hbig hq hr b1 b2 b3 b4 hbr hd0
              go_wp2
              go_round
              case rel => exact ⟨q - 1, r + d1, by go_num, by go_num, by omega, by omega, Hd1, Hd2⟩
              case measure => simp [intOf] <;> omega
          · obtain ⟨p, hp⟩ : ∃ p : Nat, p = q * d0 := ⟨_, rfl⟩
            have hp2 : p < 18446744073709551616 := by
              rw [hp]
              have := Nat.mul_le_mul (show q ≤ 4294967295 by omega) (show d0 ≤ 4294967295 by omega)
              omega
            have E11 : IntKind.u64.wrap ((q : Int) * d0) = (p : Int) := by rw [← shl_in hp2, hp, Int.natCast_mul]
            have Hp := Lib.hid hp
            clear hp
            by_cases hgt : 4294967296 * r + n0 < p
            · have hd := Knuth.down (n1 := n0) b4 (by rw [← HYd.out]; exact hU) h1.out (.inr (by rw [← Hp.out]; exact hgt))
              rw [← HYd.out, ← HQ0.out] at hd
              obtain ⟨hd0, hd1, hd2⟩ := hd
              have Hd1 := Lib.hid hd1
              have Hd2 := Lib.hid hd2
              clear hd1 hd2
              by_cases hbr : 4294967296 ≤ r + d1
              · have Hq : Hid (q - 1 = Q0) := by
                  unfold Hid
                  rw [HQ0.out, HYd.out]
                  exact Knuth.done (by rw [← HYd.out]; exact hU) Hd1.out (by rw [← HYd.out, ← HQ0.out]; exact Hd2.out) (Knuth.brk (by omega) b2 hbr)
                clear Hd1 Hd2 h1 h2
                have k2 : (q : Int) ≤ 4294967297 := by omega
                have k4 : (r : Int) < 4294967296 := by omega
                have k5 : (d1 : Int) < 4294967296 := by omega
                have k6 : (n0 : Int) < 4294967296 := by omega
                have k1 : ¬ ((4294967296 : Int) ≤ q) := by omega
                have k8 : (4294967296 : Int) * r + n0 < p := by omega
                have k9 : (p : Int) < 18446744073709551616 := by omega
                have k7 : (1 : Int) ≤ q := by omega
                have k3 : (4294967296 : Int) ≤ r + d1 := by omega
                clear hbig hq hr b1 b2 b3 b4 hbr hd0 hgt hp2
                go_wp2
                go_meet
                exact ⟨by rw [← Hq.out]; go_num, rfl⟩
              · have k2 : (q : Int) ≤ 4294967297 := by omega
                have k4 : (r : Int) < 4294967296 := by omega
                have k5 : (d1 : Int) < 4294967296 := by omega
                have k6 : (n0 : Int) < 4294967296 := by omega
                have k1 : ¬ ((4294967296 : Int) ≤ q) := by omega
                have k8 : (4294967296 : Int) * r + n0 < p := by omega
                have k9 : (p : Int) < 18446744073709551616 := by omega
                have k7 : (1 : Int) ≤ q := by omega
                have k3 : ¬ ((4294967296 : Int) ≤ r + d1) := by omega
                clear hbig hq hr b1 b2 b3 b4 hbr hd0 hgt hp2
                go_wp2
                go_round
                case rel => exact ⟨q - 1, r + d1, by go_num, by go_num, by omega, by omega, Hd1, Hd2⟩
                case measure => simp [intOf] <;> omega
            · have Hq : Hid (q = Q0) := by
                unfold Hid
                rw [HQ0.out, HYd.out]
                exact Knuth.done (by rw [← HYd.out]; exact hU) h1.out (by rw [← HYd.out, ← HQ0.out]; exact h2.out) (by rw [← Hp.out]; omega)
              clear h1 h2
              have k2 : (q : Int) ≤ 4294967297 := by omega
              have k4 : (r : Int) < 4294967296 := by omega
              have k5 : (d1 : Int) < 4294967296 := by omega
              have k6 : (n0 : Int) < 4294967296 := by omega
              have k1 : ¬ ((4294967296 : Int) ≤ q) := by omega
              have k8 : ¬ ((4294967296 : Int) * r + n0 < p) := by omega
              have k9 : (p : Int) < 18446744073709551616 := by omega
              clear hbig hq hr b1 b2 b3 b4 hgt hp2
              go_wp2
              go_meet
              exact ⟨by rw [← Hq.out], rfl⟩
      case rest =>
        obtain ⟨rfl, rfl⟩ := hcut
        go_wp2
        go_ret2
        exact ⟨rfl, Below.refl _ _⟩

end Go.Proofs.YtegnlijgjcfmlaaDoor
