/- Amounts over a route, walked: the program. -/
import Derived.Test.YtegnlijgjcfmlaaDoorRAmts
namespace Go.Proofs.YtegnlijgjcfmlaaDoor
open Go.RowKit
set_option linter.unusedVariables false
set_option linter.unusedSimpArgs false

set_option maxRecDepth 100000 in
set_option maxHeartbeats 8000000 in
theorem routeAmts_impl (a : Option Addr) (len cap : Nat) (a' : Option Addr) (len' cap' : Nat) (n : Int) (l : List Rd) (xs : List Int) (w : World) (S0 : RdS w w.heap.size a len l) (S1 : IS w w.heap.size a' len' xs) :
    Calls Tryd.prog 84 #[.slice a len cap, .slice a' len' cap', .int .i64 n] w fun e w' => (∃ a c, e = .returned (.tuple #[.slice a (rAmts l xs n).length c, .bool (rOk l xs n)]) ∧ OI w' w.heap.size a (rAmts l xs n).length c (rAmts l xs n)) ∧ Below w.heap.size w w' := by
  have hl := S0.lenB
  have hl' := S1.len
  have Hln := Lib.hid S0.1
  have Hln' := Lib.hid S1.1
  have R0 := S0
  have R1 := S1
  by_cases hro : routeB l xs = true
  · by_cases ham : amtOk n = true
    · by_cases hn0 : n = 0
      · have Hn : Hid (routeAmts l xs n = none) := if_neg (by simp [hn0])
        have t1 : (n == 0) = true := by simp [hn0]
        clear hn0
        go_enter Tryd.func84, Tryd.ntmps84
        go_wp2_with (((first | (go_at_call 107; refine (routeOk_impl _ _ _ _ _ _ _ _ _ (by (first | (with_reducible assumption) | (with_reducible exact OF.fs (fun _ => rfl) (by assumption)) | (refine FS.keep (by with_reducible assumption) ?_; (repeat (first | (with_reducible assumption) | (with_reducible exact Below.refl _ _) | (with_reducible refine Below.setCell ?_ (by first | (simp; done) | (simp [*]; done)) _) | (with_reducible refine below_alloc ?_ _) | (with_reducible refine Below.drew ?_) | (with_reducible refine below_drewN ?_)))) | (refine OF.fs (fun _ => rfl) (OF.keep (by with_reducible assumption) ?_); (repeat (first | (with_reducible assumption) | (with_reducible exact Below.refl _ _) | (with_reducible refine Below.setCell ?_ (by first | (simp; done) | (simp [*]; done)) _) | (with_reducible refine below_alloc ?_ _) | (with_reducible refine Below.drew ?_) | (with_reducible refine below_drewN ?_)))))) (by (first | (with_reducible assumption) | (with_reducible exact OI.is (by assumption)) | (refine IS.keep (by with_reducible assumption) ?_; (repeat (first | (with_reducible assumption) | (with_reducible exact Below.refl _ _) | (with_reducible refine Below.setCell ?_ (by first | (simp; done) | (simp [*]; done)) _) | (with_reducible refine below_alloc ?_ _) | (with_reducible refine Below.drew ?_) | (with_reducible refine below_drewN ?_)))) | (refine OI.is (OI.keep (by with_reducible assumption) ?_); (repeat (first | (with_reducible assumption) | (with_reducible exact Below.refl _ _) | (with_reducible refine Below.setCell ?_ (by first | (simp; done) | (simp [*]; done)) _) | (with_reducible refine below_alloc ?_ _) | (with_reducible refine Below.drew ?_) | (with_reducible refine below_drewN ?_))))))).mono ?_) | (go_at_call 61; refine (amtOk_impl _ _).mono ?_) | (go_at_call 108; refine (feeUp1_impl _ _ _ _).mono ?_) | (go_at_call 109; refine (addAmt_impl _ _ _).mono ?_)); (first | (rintro e w1 ⟨rfl, rfl⟩) | (rintro e w1 ⟨rfl, hb⟩; (try (replace H0 := below_upd H0 hb (by (repeat (first | (with_reducible assumption) | (with_reducible exact Below.refl _ _) | (with_reducible refine Below.setCell ?_ (by first | (simp; done) | (simp [*]; done)) _) | (with_reducible refine below_alloc ?_ _) | (with_reducible refine Below.drew ?_) | (with_reducible refine below_drewN ?_)))); clear hc0 hf0 hs0 hz0; obtain ⟨hc0, hf0, hs0, hz0⟩ := brules H0)); (try (replace H1 := below_upd H1 hb (by (repeat (first | (with_reducible assumption) | (with_reducible exact Below.refl _ _) | (with_reducible refine Below.setCell ?_ (by first | (simp; done) | (simp [*]; done)) _) | (with_reducible refine below_alloc ?_ _) | (with_reducible refine Below.drew ?_) | (with_reducible refine below_drewN ?_)))); clear hc1 hf1 hs1 hz1; obtain ⟨hc1, hf1, hs1, hz1⟩ := brules H1)); (try (replace H2 := below_upd H2 hb (by (repeat (first | (with_reducible assumption) | (with_reducible exact Below.refl _ _) | (with_reducible refine Below.setCell ?_ (by first | (simp; done) | (simp [*]; done)) _) | (with_reducible refine below_alloc ?_ _) | (with_reducible refine Below.drew ?_) | (with_reducible refine below_drewN ?_)))); clear hc2 hf2 hs2 hz2; obtain ⟨hc2, hf2, hs2, hz2⟩ := brules H2)); (try replace S0 := S0.keep (below_via hb (by (repeat (first | (with_reducible assumption) | (with_reducible exact Below.refl _ _) | (with_reducible refine Below.setCell ?_ (by first | (simp; done) | (simp [*]; done)) _) | (with_reducible refine below_alloc ?_ _) | (with_reducible refine Below.drew ?_) | (with_reducible refine below_drewN ?_)))))); (try replace S1 := S1.keep (below_via hb (by (repeat (first | (with_reducible assumption) | (with_reducible exact Below.refl _ _) | (with_reducible refine Below.setCell ?_ (by first | (simp; done) | (simp [*]; done)) _) | (with_reducible refine below_alloc ?_ _) | (with_reducible refine Below.drew ?_) | (with_reducible refine below_drewN ?_)))))); (try replace S2 := S2.keep (below_via hb (by (repeat (first | (with_reducible assumption) | (with_reducible exact Below.refl _ _) | (with_reducible refine Below.setCell ?_ (by first | (simp; done) | (simp [*]; done)) _) | (with_reducible refine below_alloc ?_ _) | (with_reducible refine Below.drew ?_) | (with_reducible refine below_drewN ?_)))))); (try replace S3 := S3.keep (below_via hb (by (repeat (first | (with_reducible assumption) | (with_reducible exact Below.refl _ _) | (with_reducible refine Below.setCell ?_ (by first | (simp; done) | (simp [*]; done)) _) | (with_reducible refine below_alloc ?_ _) | (with_reducible refine Below.drew ?_) | (with_reducible refine below_drewN ?_)))))); (first | ((fail_if_success (have ht := H0)); have H0 := hb; obtain ⟨hc0, hf0, hs0, hz0⟩ := brules H0) | ((fail_if_success (have ht := H1)); have H1 := hb; obtain ⟨hc1, hf1, hs1, hz1⟩ := brules H1) | ((fail_if_success (have ht := H2)); have H2 := hb; obtain ⟨hc2, hf2, hs2, hz2⟩ := brules H2) | skip)))))
        go_ret2
        exact ⟨⟨none, 0, by rw [(r_none Hn.out).1, (r_none Hn.out).2]; rfl, by rw [(r_none Hn.out).1]; exact ⟨OwnI.nil _ _, rfl, by simp⟩⟩, by (repeat (first | (with_reducible exact Below.refl _ _) | (with_reducible assumption) | (with_reducible refine Below.setCell ?_ ?side _; case side => first | (with_reducible exact Nat.le_refl _) | (simp; done) | (simp only [World.size_alloc, World.size_setCell, World.size_drew, World.heap_drewN] at *; omega)) | (with_reducible refine below_alloc ?_ _) | (with_reducible refine Below.drew ?_) | (with_reducible refine below_drewN ?_) | (with_reducible refine below_via (by assumption) ?_)))⟩
      · have t1 : (n == 0) = false := by simp [hn0]
        have HR : Hid (amtsR ((rdsOf l xs).take len').reverse n [] = routeAmts l xs n) := by
          unfold Hid routeAmts
          rw [if_pos ⟨hro, ham, hn0⟩, ← Hln'.out, ← rdsOf_len l xs, List.take_length]
        have hnb := amtOk_t ham
        have hin := routeB_in hro
        obtain ⟨h1, h8, hin⟩ := hin
        rw [Hln'.out] at h1 h8
        have Hin := Lib.hid hin
        clear hin hn0
        go_enter Tryd.func84, Tryd.ntmps84
        go_wp2_with (first | (at_make; refine wpList_make_int rfl _ _ rfl w.heap.size len' rfl rfl (by omega) H0.size ?_) | ((first | (go_at_call 107; refine (routeOk_impl _ _ _ _ _ _ _ _ _ (by (first | (with_reducible assumption) | (with_reducible exact OF.fs (fun _ => rfl) (by assumption)) | (refine FS.keep (by with_reducible assumption) ?_; (repeat (first | (with_reducible assumption) | (with_reducible exact Below.refl _ _) | (with_reducible refine Below.setCell ?_ (by first | (simp; done) | (simp [*]; done)) _) | (with_reducible refine below_alloc ?_ _) | (with_reducible refine Below.drew ?_) | (with_reducible refine below_drewN ?_)))) | (refine OF.fs (fun _ => rfl) (OF.keep (by with_reducible assumption) ?_); (repeat (first | (with_reducible assumption) | (with_reducible exact Below.refl _ _) | (with_reducible refine Below.setCell ?_ (by first | (simp; done) | (simp [*]; done)) _) | (with_reducible refine below_alloc ?_ _) | (with_reducible refine Below.drew ?_) | (with_reducible refine below_drewN ?_)))))) (by (first | (with_reducible assumption) | (with_reducible exact OI.is (by assumption)) | (refine IS.keep (by with_reducible assumption) ?_; (repeat (first | (with_reducible assumption) | (with_reducible exact Below.refl _ _) | (with_reducible refine Below.setCell ?_ (by first | (simp; done) | (simp [*]; done)) _) | (with_reducible refine below_alloc ?_ _) | (with_reducible refine Below.drew ?_) | (with_reducible refine below_drewN ?_)))) | (refine OI.is (OI.keep (by with_reducible assumption) ?_); (repeat (first | (with_reducible assumption) | (with_reducible exact Below.refl _ _) | (with_reducible refine Below.setCell ?_ (by first | (simp; done) | (simp [*]; done)) _) | (with_reducible refine below_alloc ?_ _) | (with_reducible refine Below.drew ?_) | (with_reducible refine below_drewN ?_))))))).mono ?_) | (go_at_call 61; refine (amtOk_impl _ _).mono ?_) | (go_at_call 108; refine (feeUp1_impl _ _ _ _).mono ?_) | (go_at_call 109; refine (addAmt_impl _ _ _).mono ?_)); (first | (rintro e w1 ⟨rfl, rfl⟩) | (rintro e w1 ⟨rfl, hb⟩; (try (replace H0 := below_upd H0 hb (by (repeat (first | (with_reducible assumption) | (with_reducible exact Below.refl _ _) | (with_reducible refine Below.setCell ?_ (by first | (simp; done) | (simp [*]; done)) _) | (with_reducible refine below_alloc ?_ _) | (with_reducible refine Below.drew ?_) | (with_reducible refine below_drewN ?_)))); clear hc0 hf0 hs0 hz0; obtain ⟨hc0, hf0, hs0, hz0⟩ := brules H0)); (try (replace H1 := below_upd H1 hb (by (repeat (first | (with_reducible assumption) | (with_reducible exact Below.refl _ _) | (with_reducible refine Below.setCell ?_ (by first | (simp; done) | (simp [*]; done)) _) | (with_reducible refine below_alloc ?_ _) | (with_reducible refine Below.drew ?_) | (with_reducible refine below_drewN ?_)))); clear hc1 hf1 hs1 hz1; obtain ⟨hc1, hf1, hs1, hz1⟩ := brules H1)); (try (replace H2 := below_upd H2 hb (by (repeat (first | (with_reducible assumption) | (with_reducible exact Below.refl _ _) | (with_reducible refine Below.setCell ?_ (by first | (simp; done) | (simp [*]; done)) _) | (with_reducible refine below_alloc ?_ _) | (with_reducible refine Below.drew ?_) | (with_reducible refine below_drewN ?_)))); clear hc2 hf2 hs2 hz2; obtain ⟨hc2, hf2, hs2, hz2⟩ := brules H2)); (try replace S0 := S0.keep (below_via hb (by (repeat (first | (with_reducible assumption) | (with_reducible exact Below.refl _ _) | (with_reducible refine Below.setCell ?_ (by first | (simp; done) | (simp [*]; done)) _) | (with_reducible refine below_alloc ?_ _) | (with_reducible refine Below.drew ?_) | (with_reducible refine below_drewN ?_)))))); (try replace S1 := S1.keep (below_via hb (by (repeat (first | (with_reducible assumption) | (with_reducible exact Below.refl _ _) | (with_reducible refine Below.setCell ?_ (by first | (simp; done) | (simp [*]; done)) _) | (with_reducible refine below_alloc ?_ _) | (with_reducible refine Below.drew ?_) | (with_reducible refine below_drewN ?_)))))); (try replace S2 := S2.keep (below_via hb (by (repeat (first | (with_reducible assumption) | (with_reducible exact Below.refl _ _) | (with_reducible refine Below.setCell ?_ (by first | (simp; done) | (simp [*]; done)) _) | (with_reducible refine below_alloc ?_ _) | (with_reducible refine Below.drew ?_) | (with_reducible refine below_drewN ?_)))))); (try replace S3 := S3.keep (below_via hb (by (repeat (first | (with_reducible assumption) | (with_reducible exact Below.refl _ _) | (with_reducible refine Below.setCell ?_ (by first | (simp; done) | (simp [*]; done)) _) | (with_reducible refine below_alloc ?_ _) | (with_reducible refine Below.drew ?_) | (with_reducible refine below_drewN ?_)))))); (first | ((fail_if_success (have ht := H0)); have H0 := hb; obtain ⟨hc0, hf0, hs0, hz0⟩ := brules H0) | ((fail_if_success (have ht := H1)); have H1 := hb; obtain ⟨hc1, hf1, hs1, hz1⟩ := brules H1) | ((fail_if_success (have ht := H2)); have H2 := hb; obtain ⟨hc2, hf2, hs2, hz2⟩ := brules H2) | skip)))))
        clear S0 S1 hs0 hc0 hf0
        intro w2 hown hB2 hgl
        have hB := H0.trans (hB2.mono H0.size)
        obtain ⟨g, hg⟩ : ∃ g, g = w1.heap.size := ⟨_, rfl⟩
        rw [← hg] at hown hgl ⊢
        have hgB : w.heap.size ≤ g := by omega
        clear hg hB2 H0 hz0 hro ham
        go_wp2
        go_loopw [2, 9, 10, 11, 12, 13, 14] (fun vn vi _ _ _ _ _ wr => ∃ (z m : Int) (acc : List Int), -1 ≤ z ∧ z < len' ∧ vi = .int .i64 z ∧ vn = .int .i64 m ∧ (0 ≤ m ∧ m ≤ 1125899906842624) ∧ Hid (amtsR ((rdsOf l xs).take (z + 1).toNat).reverse m acc = routeAmts l xs n) ∧ OI wr w.heap.size (some ⟨g, 0, none⟩) len' len' (List.replicate (z + 1).toNat 0 ++ acc) ∧ Hid (∀ x ∈ acc, 0 ≤ x ∧ x ≤ 1125899906842624) ∧ Below w.heap.size w wr) (fun _ vi _ _ _ _ _ _ => (intOf vi + 1).toNat)
        case atStart => exact ⟨(len' : Int) - 1, n, [], by omega, by omega, rfl, rfl, hnb, by rw [show ((len' : Int) - 1 + 1).toNat = len' by omega]; exact HR.out, by rw [show ((len' : Int) - 1 + 1).toNat = len' by omega, List.append_nil]; exact hown, by simp [Hid], hB⟩
        case round =>
          obtain ⟨z, m, acc, hz0, hz1, rfl, rfl, hm, hres, hown, hacc, hB⟩ := hrel
          by_cases hz : 0 ≤ z
          · obtain ⟨i, rfl⟩ := Int.eq_ofNat_of_zero_le hz
            rw [show ((i : Int) + 1).toNat = i + 1 by omega] at hres hown
            obtain ⟨b', off', x, rfl, hb', hc', hbd', hx, _⟩ := (R1.keep hB).at_ (show i < len' by omega)
            obtain ⟨y, r0, rfl, hy⟩ := Hin.out i x hx.out
            have hyl : y < len := by have := (List.getElem?_eq_some_iff.1 hy).1; have := Hln.out; omega
            obtain ⟨gr, offr, rf, rt, rb, rp, rc, rfl, hgr, c0, c1, c2, c3, c4, o0, o1, o2, o3, o4, hr, _⟩ := RdS.cells (FS.keep R0 hB) hyl
            have hrr := rdsOf_get hx.out hr.out
            rw [rev_take hrr] at hres
            clear hy hx hr o0 o1 o2 o3 o4
            by_cases hov : rc < m
            · have Hn : Hid (routeAmts l xs n = none) := by unfold Hid; rw [← hres.out, amtsR_over (by exact hov)]
              go_wp2
              go_ret2
              exact ⟨⟨none, 0, by rw [(r_none Hn.out).1, (r_none Hn.out).2]; rfl, by rw [(r_none Hn.out).1]; exact ⟨OwnI.nil _ _, rfl, by simp⟩⟩, below_alloc hB _⟩
            · have hres2 := hres.out
              rw [amtsR_cons (show ¬ Rd.c ⟨rf, rt, rb, rp, rc⟩ < m from hov)] at hres2
              have Hres := Lib.hid hres2
              have Hacc := Lib.hid (mem_cons_bd hm hacc.out)
              have Hrr := Lib.hid hrr
              clear hres hres2 hacc hrr
              obtain ⟨g', x0, e', hgB', hgl', q0, q1, hx0, _, hst⟩ := hown.at_w (show i < len' by omega)
              injection e' with e'
              injection e' with e'
              subst e'
              have hst1 := hst m (by omega)
              rw [zeros_set] at hst1
              have hst2 := hst1.keep (below_alloc (Below.refl _ _) (.cells #[.int .i64 rf, .int .i64 rt, .int .i64 rb, .int .i64 rp, .int .i64 rc] 32))
              clear hst hst1
              have hBs := below_alloc (hB.setCell (p := ⟨g, i, none⟩) hgB' (.int .i64 m)) (.cells #[.int .i64 rf, .int .i64 rt, .int .i64 rb, .int .i64 rp, .int .i64 rc] 32)
              have hfb := feeV_bd rb rp m true
              rcases Nat.eq_zero_or_pos i with hi0 | hi0
              · subst hi0
                simp only [Nat.add_zero] at hc'
                have Hres3 : ∀ m', amtsR ((rdsOf l xs).take 0).reverse m' (m :: acc) = routeAmts l xs n := fun _ => Hres.out
                have Hres4 := Lib.hid Hres3
                clear Hres3
                cases ha : addOk m (feeV rb rp m true) with
                | true =>
                  have hab := addOk_t ha
                  go_wp2_with (first | (go_at_call 108; refine (feeUp1_impl _ _ _ _).mono ?_; rintro e w3 ⟨rfl, hb3⟩) | ((go_at_call 109; refine (addAmt_impl _ _ _).mono ?_); rintro e w1 ⟨rfl, rfl⟩))
                  go_roundw
                  case rel => exact ⟨-1, m + feeV rb rp m true, m :: acc, by omega, by omega, by go_num, rfl, by omega, (by show amtsR ((rdsOf l xs).take 0).reverse _ (m :: acc) = _; exact Hres4.out _), (by show OI w3 w.heap.size (some ⟨g, 0, none⟩) len' len' (List.replicate 0 0 ++ m :: acc); exact hst2.keep hb3), Hacc, hBs.trans (hb3.mono hBs.size)⟩
                  case measure => simp [intOf] <;> omega
                | false =>
                  go_wp2_with (first | (go_at_call 108; refine (feeUp1_impl _ _ _ _).mono ?_; rintro e w3 ⟨rfl, hb3⟩) | ((go_at_call 109; refine (addAmt_impl _ _ _).mono ?_); rintro e w1 ⟨rfl, rfl⟩))
                  go_roundw
                  case rel => exact ⟨-1, 0, m :: acc, by omega, by omega, by go_num, rfl, by omega, (by show amtsR ((rdsOf l xs).take 0).reverse _ (m :: acc) = _; exact Hres4.out _), (by show OI w3 w.heap.size (some ⟨g, 0, none⟩) len' len' (List.replicate 0 0 ++ m :: acc); exact hst2.keep hb3), Hacc, hBs.trans (hb3.mono hBs.size)⟩
                  case measure => simp [intOf] <;> omega
              · obtain ⟨j, rfl⟩ : ∃ j, i = j + 1 := ⟨i - 1, by omega⟩
                have t4 : decide ((0 : Int) < (j : Int) + 1) = true := decide_eq_true (by omega)
                obtain ⟨q, t, hqt⟩ := take_ne (rs := rdsOf l xs) (i := j) (by rw [rdsOf_len, Hln'.out]; omega)
                cases ha : addOk m (feeV rb rp m true) with
                | true =>
                  cases hf : feeB rb rp m true with
                  | true =>
                    have hab := addOk_t ha
                    have Hres3 : Hid (amtsR ((rdsOf l xs).take (j + 1)).reverse (m + feeV rb rp m true) (m :: acc) = routeAmts l xs n) := by
                      unfold Hid
                      rw [hqt, ← amtsN_t (r := ⟨rf, rt, rb, rp, rc⟩) (by simp [chgB, ha, hf]), ← hqt]
                      exact Hres.out
                    clear hqt
                    go_wp2_with (first | (go_at_call 108; refine (feeUp1_impl _ _ _ _).mono ?_; rintro e w3 ⟨rfl, hb3⟩) | ((go_at_call 109; refine (addAmt_impl _ _ _).mono ?_); rintro e w1 ⟨rfl, rfl⟩))
                    go_roundw
                    case rel => exact ⟨(j : Int), m + feeV rb rp m true, m :: acc, by omega, by omega, by go_num, rfl, by omega, Hres3.out, hst2.keep hb3, Hacc, hBs.trans (hb3.mono hBs.size)⟩
                    case measure => simp [intOf] <;> omega
                  | false =>
                    have Hn : Hid (routeAmts l xs n = none) := by
                      unfold Hid
                      rw [← Hres.out, hqt, amtsN_f (by simp [chgB, ha, hf])]
                    clear hqt
                    go_wp2_with (first | (go_at_call 108; refine (feeUp1_impl _ _ _ _).mono ?_; rintro e w3 ⟨rfl, hb3⟩) | ((go_at_call 109; refine (addAmt_impl _ _ _).mono ?_); rintro e w1 ⟨rfl, rfl⟩))
                    go_ret2
                    exact ⟨⟨none, 0, by rw [(r_none Hn.out).1, (r_none Hn.out).2]; rfl, by rw [(r_none Hn.out).1]; exact ⟨OwnI.nil _ _, rfl, by simp⟩⟩, hBs.trans (hb3.mono hBs.size)⟩
                | false =>
                  cases hf : feeB rb rp m true with
                  | true =>
                    have Hn : Hid (routeAmts l xs n = none) := by
                      unfold Hid
                      rw [← Hres.out, hqt, amtsN_f (by simp [chgB, ha, hf])]
                    clear hqt
                    go_wp2_with (first | (go_at_call 108; refine (feeUp1_impl _ _ _ _).mono ?_; rintro e w3 ⟨rfl, hb3⟩) | ((go_at_call 109; refine (addAmt_impl _ _ _).mono ?_); rintro e w1 ⟨rfl, rfl⟩))
                    go_ret2
                    exact ⟨⟨none, 0, by rw [(r_none Hn.out).1, (r_none Hn.out).2]; rfl, by rw [(r_none Hn.out).1]; exact ⟨OwnI.nil _ _, rfl, by simp⟩⟩, hBs.trans (hb3.mono hBs.size)⟩
                  | false =>
                    have Hn : Hid (routeAmts l xs n = none) := by
                      unfold Hid
                      rw [← Hres.out, hqt, amtsN_f (by simp [chgB, ha, hf])]
                    clear hqt
                    go_wp2_with (first | (go_at_call 108; refine (feeUp1_impl _ _ _ _).mono ?_; rintro e w3 ⟨rfl, hb3⟩) | ((go_at_call 109; refine (addAmt_impl _ _ _).mono ?_); rintro e w1 ⟨rfl, rfl⟩))
                    go_ret2
                    exact ⟨⟨none, 0, by rw [(r_none Hn.out).1, (r_none Hn.out).2]; rfl, by rw [(r_none Hn.out).1]; exact ⟨OwnI.nil _ _, rfl, by simp⟩⟩, hBs.trans (hb3.mono hBs.size)⟩
          · obtain rfl : z = -1 := by omega
            have hs : routeAmts l xs n = some acc := hres.out.symm
            have hlen := (routeAmts_out hs).1
            rw [Hln'.out] at hlen
            have Hs := Lib.hid hs
            have Hlen := Lib.hid hlen
            have hown2 : OI wr w.heap.size (some ⟨g, 0, none⟩) len' len' acc := hown
            clear hs hlen hres
            go_wp2
            go_ret2
            rw [(r_some Hs.out).1, (r_some Hs.out).2, Hlen.out]
            exact ⟨⟨_, _, rfl, hown2⟩, hB⟩
    · have Hn : Hid (routeAmts l xs n = none) := if_neg (by simp [ham])
      go_enter Tryd.func84, Tryd.ntmps84
      go_wp2_with (((first | (go_at_call 107; refine (routeOk_impl _ _ _ _ _ _ _ _ _ (by (first | (with_reducible assumption) | (with_reducible exact OF.fs (fun _ => rfl) (by assumption)) | (refine FS.keep (by with_reducible assumption) ?_; (repeat (first | (with_reducible assumption) | (with_reducible exact Below.refl _ _) | (with_reducible refine Below.setCell ?_ (by first | (simp; done) | (simp [*]; done)) _) | (with_reducible refine below_alloc ?_ _) | (with_reducible refine Below.drew ?_) | (with_reducible refine below_drewN ?_)))) | (refine OF.fs (fun _ => rfl) (OF.keep (by with_reducible assumption) ?_); (repeat (first | (with_reducible assumption) | (with_reducible exact Below.refl _ _) | (with_reducible refine Below.setCell ?_ (by first | (simp; done) | (simp [*]; done)) _) | (with_reducible refine below_alloc ?_ _) | (with_reducible refine Below.drew ?_) | (with_reducible refine below_drewN ?_)))))) (by (first | (with_reducible assumption) | (with_reducible exact OI.is (by assumption)) | (refine IS.keep (by with_reducible assumption) ?_; (repeat (first | (with_reducible assumption) | (with_reducible exact Below.refl _ _) | (with_reducible refine Below.setCell ?_ (by first | (simp; done) | (simp [*]; done)) _) | (with_reducible refine below_alloc ?_ _) | (with_reducible refine Below.drew ?_) | (with_reducible refine below_drewN ?_)))) | (refine OI.is (OI.keep (by with_reducible assumption) ?_); (repeat (first | (with_reducible assumption) | (with_reducible exact Below.refl _ _) | (with_reducible refine Below.setCell ?_ (by first | (simp; done) | (simp [*]; done)) _) | (with_reducible refine below_alloc ?_ _) | (with_reducible refine Below.drew ?_) | (with_reducible refine below_drewN ?_))))))).mono ?_) | (go_at_call 61; refine (amtOk_impl _ _).mono ?_) | (go_at_call 108; refine (feeUp1_impl _ _ _ _).mono ?_) | (go_at_call 109; refine (addAmt_impl _ _ _).mono ?_)); (first | (rintro e w1 ⟨rfl, rfl⟩) | (rintro e w1 ⟨rfl, hb⟩; (try (replace H0 := below_upd H0 hb (by (repeat (first | (with_reducible assumption) | (with_reducible exact Below.refl _ _) | (with_reducible refine Below.setCell ?_ (by first | (simp; done) | (simp [*]; done)) _) | (with_reducible refine below_alloc ?_ _) | (with_reducible refine Below.drew ?_) | (with_reducible refine below_drewN ?_)))); clear hc0 hf0 hs0 hz0; obtain ⟨hc0, hf0, hs0, hz0⟩ := brules H0)); (try (replace H1 := below_upd H1 hb (by (repeat (first | (with_reducible assumption) | (with_reducible exact Below.refl _ _) | (with_reducible refine Below.setCell ?_ (by first | (simp; done) | (simp [*]; done)) _) | (with_reducible refine below_alloc ?_ _) | (with_reducible refine Below.drew ?_) | (with_reducible refine below_drewN ?_)))); clear hc1 hf1 hs1 hz1; obtain ⟨hc1, hf1, hs1, hz1⟩ := brules H1)); (try (replace H2 := below_upd H2 hb (by (repeat (first | (with_reducible assumption) | (with_reducible exact Below.refl _ _) | (with_reducible refine Below.setCell ?_ (by first | (simp; done) | (simp [*]; done)) _) | (with_reducible refine below_alloc ?_ _) | (with_reducible refine Below.drew ?_) | (with_reducible refine below_drewN ?_)))); clear hc2 hf2 hs2 hz2; obtain ⟨hc2, hf2, hs2, hz2⟩ := brules H2)); (try replace S0 := S0.keep (below_via hb (by (repeat (first | (with_reducible assumption) | (with_reducible exact Below.refl _ _) | (with_reducible refine Below.setCell ?_ (by first | (simp; done) | (simp [*]; done)) _) | (with_reducible refine below_alloc ?_ _) | (with_reducible refine Below.drew ?_) | (with_reducible refine below_drewN ?_)))))); (try replace S1 := S1.keep (below_via hb (by (repeat (first | (with_reducible assumption) | (with_reducible exact Below.refl _ _) | (with_reducible refine Below.setCell ?_ (by first | (simp; done) | (simp [*]; done)) _) | (with_reducible refine below_alloc ?_ _) | (with_reducible refine Below.drew ?_) | (with_reducible refine below_drewN ?_)))))); (try replace S2 := S2.keep (below_via hb (by (repeat (first | (with_reducible assumption) | (with_reducible exact Below.refl _ _) | (with_reducible refine Below.setCell ?_ (by first | (simp; done) | (simp [*]; done)) _) | (with_reducible refine below_alloc ?_ _) | (with_reducible refine Below.drew ?_) | (with_reducible refine below_drewN ?_)))))); (try replace S3 := S3.keep (below_via hb (by (repeat (first | (with_reducible assumption) | (with_reducible exact Below.refl _ _) | (with_reducible refine Below.setCell ?_ (by first | (simp; done) | (simp [*]; done)) _) | (with_reducible refine below_alloc ?_ _) | (with_reducible refine Below.drew ?_) | (with_reducible refine below_drewN ?_)))))); (first | ((fail_if_success (have ht := H0)); have H0 := hb; obtain ⟨hc0, hf0, hs0, hz0⟩ := brules H0) | ((fail_if_success (have ht := H1)); have H1 := hb; obtain ⟨hc1, hf1, hs1, hz1⟩ := brules H1) | ((fail_if_success (have ht := H2)); have H2 := hb; obtain ⟨hc2, hf2, hs2, hz2⟩ := brules H2) | skip)))))
      go_ret2
      exact ⟨⟨none, 0, by rw [(r_none Hn.out).1, (r_none Hn.out).2]; rfl, by rw [(r_none Hn.out).1]; exact ⟨OwnI.nil _ _, rfl, by simp⟩⟩, by (repeat (first | (with_reducible exact Below.refl _ _) | (with_reducible assumption) | (with_reducible refine Below.setCell ?_ ?side _; case side => first | (with_reducible exact Nat.le_refl _) | (simp; done) | (simp only [World.size_alloc, World.size_setCell, World.size_drew, World.heap_drewN] at *; omega)) | (with_reducible refine below_alloc ?_ _) | (with_reducible refine Below.drew ?_) | (with_reducible refine below_drewN ?_) | (with_reducible refine below_via (by assumption) ?_)))⟩
  · have Hn : Hid (routeAmts l xs n = none) := if_neg (by simp [hro])
    go_enter Tryd.func84, Tryd.ntmps84
    go_wp2_with (((first | (go_at_call 107; refine (routeOk_impl _ _ _ _ _ _ _ _ _ (by (first | (with_reducible assumption) | (with_reducible exact OF.fs (fun _ => rfl) (by assumption)) | (refine FS.keep (by with_reducible assumption) ?_; (repeat (first | (with_reducible assumption) | (with_reducible exact Below.refl _ _) | (with_reducible refine Below.setCell ?_ (by first | (simp; done) | (simp [*]; done)) _) | (with_reducible refine below_alloc ?_ _) | (with_reducible refine Below.drew ?_) | (with_reducible refine below_drewN ?_)))) | (refine OF.fs (fun _ => rfl) (OF.keep (by with_reducible assumption) ?_); (repeat (first | (with_reducible assumption) | (with_reducible exact Below.refl _ _) | (with_reducible refine Below.setCell ?_ (by first | (simp; done) | (simp [*]; done)) _) | (with_reducible refine below_alloc ?_ _) | (with_reducible refine Below.drew ?_) | (with_reducible refine below_drewN ?_)))))) (by (first | (with_reducible assumption) | (with_reducible exact OI.is (by assumption)) | (refine IS.keep (by with_reducible assumption) ?_; (repeat (first | (with_reducible assumption) | (with_reducible exact Below.refl _ _) | (with_reducible refine Below.setCell ?_ (by first | (simp; done) | (simp [*]; done)) _) | (with_reducible refine below_alloc ?_ _) | (with_reducible refine Below.drew ?_) | (with_reducible refine below_drewN ?_)))) | (refine OI.is (OI.keep (by with_reducible assumption) ?_); (repeat (first | (with_reducible assumption) | (with_reducible exact Below.refl _ _) | (with_reducible refine Below.setCell ?_ (by first | (simp; done) | (simp [*]; done)) _) | (with_reducible refine below_alloc ?_ _) | (with_reducible refine Below.drew ?_) | (with_reducible refine below_drewN ?_))))))).mono ?_) | (go_at_call 61; refine (amtOk_impl _ _).mono ?_) | (go_at_call 108; refine (feeUp1_impl _ _ _ _).mono ?_) | (go_at_call 109; refine (addAmt_impl _ _ _).mono ?_)); (first | (rintro e w1 ⟨rfl, rfl⟩) | (rintro e w1 ⟨rfl, hb⟩; (try (replace H0 := below_upd H0 hb (by (repeat (first | (with_reducible assumption) | (with_reducible exact Below.refl _ _) | (with_reducible refine Below.setCell ?_ (by first | (simp; done) | (simp [*]; done)) _) | (with_reducible refine below_alloc ?_ _) | (with_reducible refine Below.drew ?_) | (with_reducible refine below_drewN ?_)))); clear hc0 hf0 hs0 hz0; obtain ⟨hc0, hf0, hs0, hz0⟩ := brules H0)); (try (replace H1 := below_upd H1 hb (by (repeat (first | (with_reducible assumption) | (with_reducible exact Below.refl _ _) | (with_reducible refine Below.setCell ?_ (by first | (simp; done) | (simp [*]; done)) _) | (with_reducible refine below_alloc ?_ _) | (with_reducible refine Below.drew ?_) | (with_reducible refine below_drewN ?_)))); clear hc1 hf1 hs1 hz1; obtain ⟨hc1, hf1, hs1, hz1⟩ := brules H1)); (try (replace H2 := below_upd H2 hb (by (repeat (first | (with_reducible assumption) | (with_reducible exact Below.refl _ _) | (with_reducible refine Below.setCell ?_ (by first | (simp; done) | (simp [*]; done)) _) | (with_reducible refine below_alloc ?_ _) | (with_reducible refine Below.drew ?_) | (with_reducible refine below_drewN ?_)))); clear hc2 hf2 hs2 hz2; obtain ⟨hc2, hf2, hs2, hz2⟩ := brules H2)); (try replace S0 := S0.keep (below_via hb (by (repeat (first | (with_reducible assumption) | (with_reducible exact Below.refl _ _) | (with_reducible refine Below.setCell ?_ (by first | (simp; done) | (simp [*]; done)) _) | (with_reducible refine below_alloc ?_ _) | (with_reducible refine Below.drew ?_) | (with_reducible refine below_drewN ?_)))))); (try replace S1 := S1.keep (below_via hb (by (repeat (first | (with_reducible assumption) | (with_reducible exact Below.refl _ _) | (with_reducible refine Below.setCell ?_ (by first | (simp; done) | (simp [*]; done)) _) | (with_reducible refine below_alloc ?_ _) | (with_reducible refine Below.drew ?_) | (with_reducible refine below_drewN ?_)))))); (try replace S2 := S2.keep (below_via hb (by (repeat (first | (with_reducible assumption) | (with_reducible exact Below.refl _ _) | (with_reducible refine Below.setCell ?_ (by first | (simp; done) | (simp [*]; done)) _) | (with_reducible refine below_alloc ?_ _) | (with_reducible refine Below.drew ?_) | (with_reducible refine below_drewN ?_)))))); (try replace S3 := S3.keep (below_via hb (by (repeat (first | (with_reducible assumption) | (with_reducible exact Below.refl _ _) | (with_reducible refine Below.setCell ?_ (by first | (simp; done) | (simp [*]; done)) _) | (with_reducible refine below_alloc ?_ _) | (with_reducible refine Below.drew ?_) | (with_reducible refine below_drewN ?_)))))); (first | ((fail_if_success (have ht := H0)); have H0 := hb; obtain ⟨hc0, hf0, hs0, hz0⟩ := brules H0) | ((fail_if_success (have ht := H1)); have H1 := hb; obtain ⟨hc1, hf1, hs1, hz1⟩ := brules H1) | ((fail_if_success (have ht := H2)); have H2 := hb; obtain ⟨hc2, hf2, hs2, hz2⟩ := brules H2) | skip)))))
    go_ret2
    exact ⟨⟨none, 0, by rw [(r_none Hn.out).1, (r_none Hn.out).2]; rfl, by rw [(r_none Hn.out).1]; exact ⟨OwnI.nil _ _, rfl, by simp⟩⟩, by (repeat (first | (with_reducible exact Below.refl _ _) | (with_reducible assumption) | (with_reducible refine Below.setCell ?_ ?side _; case side => first | (with_reducible exact Nat.le_refl _) | (simp; done) | (simp only [World.size_alloc, World.size_setCell, World.size_drew, World.heap_drewN] at *; omega)) | (with_reducible refine below_alloc ?_ _) | (with_reducible refine Below.drew ?_) | (with_reducible refine below_drewN ?_) | (with_reducible refine below_via (by assumption) ?_)))⟩

end Go.Proofs.YtegnlijgjcfmlaaDoor
