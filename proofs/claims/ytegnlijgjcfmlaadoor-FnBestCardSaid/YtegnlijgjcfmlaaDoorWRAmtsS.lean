/- Amounts over a route, walked: the reference. -/
import Derived.Test.YtegnlijgjcfmlaaDoorWRAmts
namespace Go.Proofs.YtegnlijgjcfmlaaDoor
open Go.RowKit
set_option linter.unusedVariables false
set_option linter.unusedSimpArgs false

noncomputable def rAmtsS (l : List Rd) (xs : List Int) (n : Int) : List Int := if roadsOk l = true then rAmts l xs n else []
noncomputable def rOkS (l : List Rd) (xs : List Int) (n : Int) : Bool := roadsOk l && rOk l xs n
theorem rAmtsS_t {l : List Rd} {xs : List Int} {n : Int} (h : roadsOk l = true) : rAmtsS l xs n = rAmts l xs n := if_pos h
theorem rOkS_t {l : List Rd} {xs : List Int} {n : Int} (h : roadsOk l = true) : rOkS l xs n = rOk l xs n := by rw [rOkS, h, Bool.true_and]
theorem rAmtsS_f {l : List Rd} {xs : List Int} {n : Int} (h : roadsOk l = false) : rAmtsS l xs n = [] := if_neg (by simp [h])
theorem rOkS_f {l : List Rd} {xs : List Int} {n : Int} (h : roadsOk l = false) : rOkS l xs n = false := by rw [rOkS, h, Bool.false_and]
theorem rAmtsS_bd (l : List Rd) (xs : List Int) (n : Int) : ∀ x ∈ rAmtsS l xs n, -9223372036854775808 ≤ x ∧ x ≤ 9223372036854775807 := by
  unfold rAmtsS; split
  · exact rAmts_bd l xs n
  · simp
theorem rAmtsS_len (l : List Rd) (xs : List Int) (n : Int) : (rAmtsS l xs n).length ≤ 8 := by
  unfold rAmtsS; split
  · exact rAmts_len l xs n
  · simp

theorem OI.drewN {w : World} {B : Nat} {a : Option Addr} {len cap : Nat} {xs : List Int} (h : OI w B a len cap xs) (n : Nat) : OI (w.drewN n) B a len cap xs := h
def StS (l : List Rd) (xs : List Int) (n : Int) (j : Nat) (acc : List Int) : Prop :=
  (acc = [] → amtsR ((rdsOf l xs).take j).reverse n [] = routeAmts l xs n) ∧ ∀ m acc', acc = m :: acc' → ∃ r, (rdsOf l xs)[j]? = some r ∧ amtsN r m ((rdsOf l xs).take j).reverse acc = routeAmts l xs n

set_option maxRecDepth 100000 in
set_option maxHeartbeats 8000000 in
theorem routeAmts_spec (a : Option Addr) (len cap : Nat) (a' : Option Addr) (len' cap' : Nat) (n : Int) (l : List Rd) (xs : List Int) (w : World) (S0 : RdS w w.heap.size a len l) (S1 : IS w w.heap.size a' len' xs) :
    Calls Tryd.prog 105 #[.slice a len cap, .slice a' len' cap', .int .i64 n] w fun e w' => (∃ a c, e = .returned (.tuple #[.slice a (rAmtsS l xs n).length c, .bool (rOkS l xs n)]) ∧ OI w' w.heap.size a (rAmtsS l xs n).length c (rAmtsS l xs n)) ∧ Below w.heap.size w w' := by
  have hl := S0.lenB
  have hl' := S1.len
  have Hln := Lib.hid S0.1
  have Hln' := Lib.hid S1.1
  have R0 := S0
  have R1 := S1
  by_cases hro : routeOkS l xs = true
  · have hrb : routeB l xs = true := by rw [routeOkS, Bool.and_eq_true] at hro; exact hro.2
    have Hro : Hid (roadsOk l = true) := by rw [routeOkS, Bool.and_eq_true] at hro; exact hro.1
    rw [rAmtsS_t Hro.out, rOkS_t Hro.out]
    by_cases ham : amtOk n = true
    · have hnb := amtOk_t ham
      by_cases hn0 : n < 1
      · have Hn : Hid (routeAmts l xs n = none) := if_neg fun h => h.2.2 (by omega)
        go_enter Tryd.func105, Tryd.ntmps105
        go_wp2_with (((first | (go_at_call 81; refine (routeOk_spec _ _ _ _ _ _ _ _ _ (by (first | (with_reducible assumption) | (with_reducible exact OF.fs (fun _ => rfl) (by assumption)) | (refine FS.keep (by with_reducible assumption) ?_; (repeat (first | (with_reducible assumption) | (with_reducible exact Below.refl _ _) | (with_reducible refine Below.setCell ?_ (by first | (simp; done) | (simp [*]; done)) _) | (with_reducible refine below_alloc ?_ _) | (with_reducible refine Below.drew ?_) | (with_reducible refine below_drewN ?_)))) | (refine OF.fs (fun _ => rfl) (OF.keep (by with_reducible assumption) ?_); (repeat (first | (with_reducible assumption) | (with_reducible exact Below.refl _ _) | (with_reducible refine Below.setCell ?_ (by first | (simp; done) | (simp [*]; done)) _) | (with_reducible refine below_alloc ?_ _) | (with_reducible refine Below.drew ?_) | (with_reducible refine below_drewN ?_)))))) (by (first | (with_reducible assumption) | (with_reducible exact OI.is (by assumption)) | (refine IS.keep (by with_reducible assumption) ?_; (repeat (first | (with_reducible assumption) | (with_reducible exact Below.refl _ _) | (with_reducible refine Below.setCell ?_ (by first | (simp; done) | (simp [*]; done)) _) | (with_reducible refine below_alloc ?_ _) | (with_reducible refine Below.drew ?_) | (with_reducible refine below_drewN ?_)))) | (refine OI.is (OI.keep (by with_reducible assumption) ?_); (repeat (first | (with_reducible assumption) | (with_reducible exact Below.refl _ _) | (with_reducible refine Below.setCell ?_ (by first | (simp; done) | (simp [*]; done)) _) | (with_reducible refine below_alloc ?_ _) | (with_reducible refine Below.drew ?_) | (with_reducible refine below_drewN ?_))))))).mono ?_) | (go_at_call 57; refine (amtOk_spec _ _).mono ?_) | (go_at_call 117; refine (feeUp1_spec _ _ _ _).mono ?_) | (go_at_call 118; refine (addAmt_spec _ _ _).mono ?_)); (first | (rintro e w1 ⟨rfl, rfl⟩) | (rintro e w1 ⟨rfl, hb⟩; (try (replace H0 := below_upd H0 hb (by (repeat (first | (with_reducible assumption) | (with_reducible exact Below.refl _ _) | (with_reducible refine Below.setCell ?_ (by first | (simp; done) | (simp [*]; done)) _) | (with_reducible refine below_alloc ?_ _) | (with_reducible refine Below.drew ?_) | (with_reducible refine below_drewN ?_)))); clear hc0 hf0 hs0 hz0; obtain ⟨hc0, hf0, hs0, hz0⟩ := brules H0)); (try (replace H1 := below_upd H1 hb (by (repeat (first | (with_reducible assumption) | (with_reducible exact Below.refl _ _) | (with_reducible refine Below.setCell ?_ (by first | (simp; done) | (simp [*]; done)) _) | (with_reducible refine below_alloc ?_ _) | (with_reducible refine Below.drew ?_) | (with_reducible refine below_drewN ?_)))); clear hc1 hf1 hs1 hz1; obtain ⟨hc1, hf1, hs1, hz1⟩ := brules H1)); (try (replace H2 := below_upd H2 hb (by (repeat (first | (with_reducible assumption) | (with_reducible exact Below.refl _ _) | (with_reducible refine Below.setCell ?_ (by first | (simp; done) | (simp [*]; done)) _) | (with_reducible refine below_alloc ?_ _) | (with_reducible refine Below.drew ?_) | (with_reducible refine below_drewN ?_)))); clear hc2 hf2 hs2 hz2; obtain ⟨hc2, hf2, hs2, hz2⟩ := brules H2)); (try replace S0 := S0.keep (below_via hb (by (repeat (first | (with_reducible assumption) | (with_reducible exact Below.refl _ _) | (with_reducible refine Below.setCell ?_ (by first | (simp; done) | (simp [*]; done)) _) | (with_reducible refine below_alloc ?_ _) | (with_reducible refine Below.drew ?_) | (with_reducible refine below_drewN ?_)))))); (try replace S1 := S1.keep (below_via hb (by (repeat (first | (with_reducible assumption) | (with_reducible exact Below.refl _ _) | (with_reducible refine Below.setCell ?_ (by first | (simp; done) | (simp [*]; done)) _) | (with_reducible refine below_alloc ?_ _) | (with_reducible refine Below.drew ?_) | (with_reducible refine below_drewN ?_)))))); (try replace S2 := S2.keep (below_via hb (by (repeat (first | (with_reducible assumption) | (with_reducible exact Below.refl _ _) | (with_reducible refine Below.setCell ?_ (by first | (simp; done) | (simp [*]; done)) _) | (with_reducible refine below_alloc ?_ _) | (with_reducible refine Below.drew ?_) | (with_reducible refine below_drewN ?_)))))); (try replace S3 := S3.keep (below_via hb (by (repeat (first | (with_reducible assumption) | (with_reducible exact Below.refl _ _) | (with_reducible refine Below.setCell ?_ (by first | (simp; done) | (simp [*]; done)) _) | (with_reducible refine below_alloc ?_ _) | (with_reducible refine Below.drew ?_) | (with_reducible refine below_drewN ?_)))))); (first | ((fail_if_success (have ht := H0)); have H0 := hb; obtain ⟨hc0, hf0, hs0, hz0⟩ := brules H0) | ((fail_if_success (have ht := H1)); have H1 := hb; obtain ⟨hc1, hf1, hs1, hz1⟩ := brules H1) | ((fail_if_success (have ht := H2)); have H2 := hb; obtain ⟨hc2, hf2, hs2, hz2⟩ := brules H2) | skip)))))
        go_ret2
        exact ⟨⟨none, 0, by rw [(r_none Hn.out).1, (r_none Hn.out).2]; rfl, by rw [(r_none Hn.out).1]; exact ⟨OwnI.nil _ _, rfl, by simp⟩⟩, by (repeat (first | (with_reducible exact Below.refl _ _) | (with_reducible assumption) | (with_reducible refine Below.setCell ?_ ?side _; case side => first | (with_reducible exact Nat.le_refl _) | (simp; done) | (simp only [World.size_alloc, World.size_setCell, World.size_drew, World.heap_drewN] at *; omega)) | (with_reducible refine below_alloc ?_ _) | (with_reducible refine Below.drew ?_) | (with_reducible refine below_drewN ?_) | (with_reducible refine below_via (by assumption) ?_)))⟩
      · have HR : Hid (amtsR ((rdsOf l xs).take len').reverse n [] = routeAmts l xs n) := by
          unfold Hid routeAmts
          rw [if_pos ⟨hrb, ham, by omega⟩, ← Hln'.out, ← rdsOf_len l xs, List.take_length]
        have hin := routeB_in hrb
        obtain ⟨h1, h8, hin⟩ := hin
        rw [Hln'.out] at h1 h8
        have Hin := Lib.hid hin
        clear hin
        go_enter Tryd.func105, Tryd.ntmps105
        go_wp2_with (first | (at_make; refine wpList_make_int rfl _ _ rfl w.heap.size len' rfl rfl (by omega) H0.size ?_) | ((first | (go_at_call 81; refine (routeOk_spec _ _ _ _ _ _ _ _ _ (by (first | (with_reducible assumption) | (with_reducible exact OF.fs (fun _ => rfl) (by assumption)) | (refine FS.keep (by with_reducible assumption) ?_; (repeat (first | (with_reducible assumption) | (with_reducible exact Below.refl _ _) | (with_reducible refine Below.setCell ?_ (by first | (simp; done) | (simp [*]; done)) _) | (with_reducible refine below_alloc ?_ _) | (with_reducible refine Below.drew ?_) | (with_reducible refine below_drewN ?_)))) | (refine OF.fs (fun _ => rfl) (OF.keep (by with_reducible assumption) ?_); (repeat (first | (with_reducible assumption) | (with_reducible exact Below.refl _ _) | (with_reducible refine Below.setCell ?_ (by first | (simp; done) | (simp [*]; done)) _) | (with_reducible refine below_alloc ?_ _) | (with_reducible refine Below.drew ?_) | (with_reducible refine below_drewN ?_)))))) (by (first | (with_reducible assumption) | (with_reducible exact OI.is (by assumption)) | (refine IS.keep (by with_reducible assumption) ?_; (repeat (first | (with_reducible assumption) | (with_reducible exact Below.refl _ _) | (with_reducible refine Below.setCell ?_ (by first | (simp; done) | (simp [*]; done)) _) | (with_reducible refine below_alloc ?_ _) | (with_reducible refine Below.drew ?_) | (with_reducible refine below_drewN ?_)))) | (refine OI.is (OI.keep (by with_reducible assumption) ?_); (repeat (first | (with_reducible assumption) | (with_reducible exact Below.refl _ _) | (with_reducible refine Below.setCell ?_ (by first | (simp; done) | (simp [*]; done)) _) | (with_reducible refine below_alloc ?_ _) | (with_reducible refine Below.drew ?_) | (with_reducible refine below_drewN ?_))))))).mono ?_) | (go_at_call 57; refine (amtOk_spec _ _).mono ?_) | (go_at_call 117; refine (feeUp1_spec _ _ _ _).mono ?_) | (go_at_call 118; refine (addAmt_spec _ _ _).mono ?_)); (first | (rintro e w1 ⟨rfl, rfl⟩) | (rintro e w1 ⟨rfl, hb⟩; (try (replace H0 := below_upd H0 hb (by (repeat (first | (with_reducible assumption) | (with_reducible exact Below.refl _ _) | (with_reducible refine Below.setCell ?_ (by first | (simp; done) | (simp [*]; done)) _) | (with_reducible refine below_alloc ?_ _) | (with_reducible refine Below.drew ?_) | (with_reducible refine below_drewN ?_)))); clear hc0 hf0 hs0 hz0; obtain ⟨hc0, hf0, hs0, hz0⟩ := brules H0)); (try (replace H1 := below_upd H1 hb (by (repeat (first | (with_reducible assumption) | (with_reducible exact Below.refl _ _) | (with_reducible refine Below.setCell ?_ (by first | (simp; done) | (simp [*]; done)) _) | (with_reducible refine below_alloc ?_ _) | (with_reducible refine Below.drew ?_) | (with_reducible refine below_drewN ?_)))); clear hc1 hf1 hs1 hz1; obtain ⟨hc1, hf1, hs1, hz1⟩ := brules H1)); (try (replace H2 := below_upd H2 hb (by (repeat (first | (with_reducible assumption) | (with_reducible exact Below.refl _ _) | (with_reducible refine Below.setCell ?_ (by first | (simp; done) | (simp [*]; done)) _) | (with_reducible refine below_alloc ?_ _) | (with_reducible refine Below.drew ?_) | (with_reducible refine below_drewN ?_)))); clear hc2 hf2 hs2 hz2; obtain ⟨hc2, hf2, hs2, hz2⟩ := brules H2)); (try replace S0 := S0.keep (below_via hb (by (repeat (first | (with_reducible assumption) | (with_reducible exact Below.refl _ _) | (with_reducible refine Below.setCell ?_ (by first | (simp; done) | (simp [*]; done)) _) | (with_reducible refine below_alloc ?_ _) | (with_reducible refine Below.drew ?_) | (with_reducible refine below_drewN ?_)))))); (try replace S1 := S1.keep (below_via hb (by (repeat (first | (with_reducible assumption) | (with_reducible exact Below.refl _ _) | (with_reducible refine Below.setCell ?_ (by first | (simp; done) | (simp [*]; done)) _) | (with_reducible refine below_alloc ?_ _) | (with_reducible refine Below.drew ?_) | (with_reducible refine below_drewN ?_)))))); (try replace S2 := S2.keep (below_via hb (by (repeat (first | (with_reducible assumption) | (with_reducible exact Below.refl _ _) | (with_reducible refine Below.setCell ?_ (by first | (simp; done) | (simp [*]; done)) _) | (with_reducible refine below_alloc ?_ _) | (with_reducible refine Below.drew ?_) | (with_reducible refine below_drewN ?_)))))); (try replace S3 := S3.keep (below_via hb (by (repeat (first | (with_reducible assumption) | (with_reducible exact Below.refl _ _) | (with_reducible refine Below.setCell ?_ (by first | (simp; done) | (simp [*]; done)) _) | (with_reducible refine below_alloc ?_ _) | (with_reducible refine Below.drew ?_) | (with_reducible refine below_drewN ?_)))))); (first | ((fail_if_success (have ht := H0)); have H0 := hb; obtain ⟨hc0, hf0, hs0, hz0⟩ := brules H0) | ((fail_if_success (have ht := H1)); have H1 := hb; obtain ⟨hc1, hf1, hs1, hz1⟩ := brules H1) | ((fail_if_success (have ht := H2)); have H2 := hb; obtain ⟨hc2, hf2, hs2, hz2⟩ := brules H2) | skip)))))
        clear S0 S1 hs0 hc0 hf0
        intro w2 hown hB2 hgl
        have hB := H0.trans (hB2.mono H0.size)
        obtain ⟨g, hg⟩ : ∃ g, g = w1.heap.size := ⟨_, rfl⟩
        rw [← hg] at hown hgl ⊢
        have hgB : w.heap.size ≤ g := by omega
        clear hg hB2 H0 hz0 hro ham hrb
        go_wp2
        go_loopw [9, 10, 11, 12, 13, 14, 15] (fun vi _ _ _ _ _ _ wr => ∃ (z : Int) (acc : List Int), -1 ≤ z ∧ z < len' ∧ vi = .int .i64 z ∧ Hid (StS l xs n (z + 1).toNat acc) ∧ OI wr w.heap.size (some ⟨g, 0, none⟩) len' len' (List.replicate (z + 1).toNat 0 ++ acc) ∧ Hid (∀ x ∈ acc, 0 ≤ x ∧ x ≤ 1125899906842624) ∧ Below w.heap.size w wr) (fun vi _ _ _ _ _ _ _ => (intOf vi + 1).toNat)
        case atStart => exact ⟨(len' : Int) - 1, [], by omega, by omega, rfl, by rw [show ((len' : Int) - 1 + 1).toNat = len' by omega]; exact ⟨fun _ => HR.out, fun m acc' h => by cases h⟩, by rw [show ((len' : Int) - 1 + 1).toNat = len' by omega, List.append_nil]; exact hown, by simp [Hid], hB⟩
        case round =>
          obtain ⟨z, acc, hz0, hz1, rfl, hres, hown, hacc, hB⟩ := hrel
          by_cases hz : 0 ≤ z
          · obtain ⟨i, rfl⟩ := Int.eq_ofNat_of_zero_le hz
            rw [show ((i : Int) + 1).toNat = i + 1 by omega] at hres hown
            have hal := hown.2.1
            simp only [List.length_append, List.length_replicate] at hal
            obtain ⟨b', off', x, rfl, hb', hc', hbd', hx, _⟩ := (R1.keep hB).at_ (show i < len' by omega)
            obtain ⟨y, r0, rfl, hy⟩ := Hin.out i x hx.out
            have hyl : y < len := by have := (List.getElem?_eq_some_iff.1 hy).1; have := Hln.out; omega
            obtain ⟨gr, offr, rf, rt, rb, rp, rc, rfl, hgr, c0, c1, c2, c3, c4, o0, o1, o2, o3, o4, hr, _⟩ := RdS.cells (FS.keep R0 hB) hyl
            have hrr := rdsOf_get hx.out hr.out
            have Hrr := Lib.hid hrr
            have hrev := rev_take hrr
            clear hy hx hr o0 o1 o2 o3 o4 hrr
            obtain ⟨g', x0, e', hgB', hgl', q0, q1, hx0, _, hst⟩ := hown.at_w (show i < len' by omega)
            injection e' with e'
            injection e' with e'
            subst e'
            cases acc with
            | nil =>
              have hi : i + 1 = len' := by simpa using hal
              have t5 : decide ((i : Int) < (len' : Int) - 1) = false := decide_eq_false (by omega)
              have hres2 := hres.out.1 rfl
              rw [hrev] at hres2
              clear hres hrev hal
              by_cases hov : rc < n
              · have Hn : Hid (routeAmts l xs n = none) := by unfold Hid; rw [← hres2, amtsR_over (by exact hov)]
                clear hres2 hi
                go_wp2
                go_ret2
                exact ⟨⟨none, 0, by rw [(r_none Hn.out).1, (r_none Hn.out).2]; rfl, by rw [(r_none Hn.out).1]; exact ⟨OwnI.nil _ _, rfl, by simp⟩⟩, hB⟩
              · rw [amtsR_cons (show ¬ Rd.c ⟨rf, rt, rb, rp, rc⟩ < n from hov)] at hres2
                have Hres := Lib.hid hres2
                have Hacc := Lib.hid (mem_cons_bd hnb hacc.out)
                have hst1 := hst n (by omega)
                rw [zeros_set] at hst1
                have Hi := Lib.hid hi
                clear hres2 hi hst
                go_wp2
                go_roundw
                case rel => exact ⟨(i : Int) - 1, [n], by omega, by omega, rfl, (by rw [show ((i : Int) - 1 + 1).toNat = i by omega]; exact ⟨fun h => (by cases h), fun m acc' h => (by injection h with h1 h2; subst h1; exact ⟨_, Hrr.out, Hres.out⟩)⟩), (by rw [show ((i : Int) - 1 + 1).toNat = i by omega]; exact hst1), Hacc, hB.setCell (p := ⟨g, i, none⟩) hgB' (.int .i64 n)⟩
                case measure => simp [intOf] <;> omega
            | cons m acc' =>
              have hil : i + 1 < len' := by simp at hal; omega
              have t5 : decide ((i : Int) < (len' : Int) - 1) = true := decide_eq_true (by omega)
              obtain ⟨q, hq, hres2⟩ := hres.out.2 m acc' rfl
              have hmb := hacc.out m List.mem_cons_self
              obtain ⟨b2, off2, x2, e2, hb2, hc2, hbd2, hx2, _⟩ := (R1.keep hB).at_ (show i + 1 < len' by omega)
              injection e2 with e2
              injection e2 with e2a e2b
              subst e2a; subst e2b
              obtain ⟨y2, r2, rfl, hy2⟩ := Hin.out (i + 1) x2 hx2.out
              have hyl2 : y2 < len := by have := (List.getElem?_eq_some_iff.1 hy2).1; have := Hln.out; omega
              obtain ⟨gs, offs, sf, st, sb, sp, sc, e3, hgs, d0, d1, d2, d3, d4, p0, p1, p2, p3, p4, hs2, _⟩ := RdS.cells (FS.keep R0 hB) hyl2
              injection e3 with e3
              injection e3 with e3a e3b
              subst e3a; subst e3b
              have hqq := rdsOf_get hx2.out hs2.out
              rw [hq] at hqq
              obtain rfl := Option.some.inj hqq
              obtain ⟨g', x5, e', hgB5, hgl5, q5, q6, hx5, hx6, _⟩ := hown.at_w (show i + 1 < len' by omega)
              injection e' with e'
              injection e' with e'
              subst e'
              have hx7 := hx6.out
              rw [zeros_get] at hx7
              obtain rfl : m = x5 := Option.some.inj hx7
              rw [hrev] at hres2
              have Hacc0 := Lib.hid hacc.out
              clear hres hq hqq hrev hal hx2 hy2 hs2 p0 p1 p2 p3 p4 hx7 hx6 hacc
              have hfb := feeV_bd sb sp m true
              have hsl := hst
              clear hst
              cases ha : addOk m (feeV sb sp m true) with
              | true =>
                cases hf : feeB sb sp m true with
                | true =>
                  have hab := addOk_t ha
                  rw [amtsN_t (r := ⟨sf, st, sb, sp, sc⟩) (by simp [chgB, ha, hf])] at hres2
                  by_cases hov : rc < m + feeV sb sp m true
                  · have Hn : Hid (routeAmts l xs n = none) := by unfold Hid; rw [← hres2]; exact amtsR_over hov
                    clear hres2 hsl
                    go_wp2
                    go_quiet ((go_at_call 117; exact Calls.quiet_of_same ((feeUp1_spec _ _ _ _).mono fun _ _ h => ⟨h.1, h.2.symm⟩)))
                    go_wp2_with (((go_at_call 118; refine (addAmt_spec _ _ _).mono ?_); rintro e w1 ⟨rfl, rfl⟩))
                    go_ret2
                    exact ⟨⟨none, 0, by rw [(r_none Hn.out).1, (r_none Hn.out).2]; rfl, by rw [(r_none Hn.out).1]; exact ⟨OwnI.nil _ _, rfl, by simp⟩⟩, below_drewN (below_alloc hB _)⟩
                  · have hres3 : amtsN ⟨rf, rt, rb, rp, rc⟩ (m + feeV sb sp m true) ((rdsOf l xs).take i).reverse ((m + feeV sb sp m true) :: m :: acc') = routeAmts l xs n := by rw [← hres2]; exact (amtsR_cons hov).symm
                    have Hres := Lib.hid hres3
                    have Hacc := Lib.hid (mem_cons_bd (n := m + feeV sb sp m true) (by omega) Hacc0.out)
                    clear hres2 hres3 hsl
                    go_wp2
                    go_quiet ((go_at_call 117; exact Calls.quiet_of_same ((feeUp1_spec _ _ _ _).mono fun _ _ h => ⟨h.1, h.2.symm⟩)))
                    obtain ⟨g', x9, e', _, _, _, _, _, _, hst9⟩ := (OI.drewN (hown.keep (below_alloc (Below.refl _ _) (.cells #[.int .i64 sf, .int .i64 st, .int .i64 sb, .int .i64 sp, .int .i64 sc] 32))) nq).at_w (show i < len' by omega)
                    injection e' with e'
                    injection e' with e'
                    subst e'
                    have hst1 := hst9 (m + feeV sb sp m true) (by omega)
                    rw [zeros_set] at hst1
                    clear hst9
                    go_wp2_with (((go_at_call 118; refine (addAmt_spec _ _ _).mono ?_); rintro e w1 ⟨rfl, rfl⟩))
                    go_roundw
                    case rel => exact ⟨(i : Int) - 1, (m + feeV sb sp m true) :: m :: acc', by omega, by omega, rfl, (by rw [show ((i : Int) - 1 + 1).toNat = i by omega]; exact ⟨fun h => (by cases h), fun m' acc'' h => (by injection h with h1 h2; subst h1; exact ⟨_, Hrr.out, Hres.out⟩)⟩), (by rw [show ((i : Int) - 1 + 1).toNat = i by omega]; exact hst1), Hacc, (below_drewN (below_alloc hB (.cells #[.int .i64 sf, .int .i64 st, .int .i64 sb, .int .i64 sp, .int .i64 sc] 32))).setCell (p := ⟨g, i, none⟩) hgB' (.int .i64 (m + feeV sb sp m true))⟩
                    case measure => simp [intOf] <;> omega
                | false =>
                  have Hn : Hid (routeAmts l xs n = none) := by
                    obtain ⟨q2, t2, hqt⟩ : ∃ q2 t2, q2 :: t2 = (⟨rf, rt, rb, rp, rc⟩ : Rd) :: ((rdsOf l xs).take i).reverse := ⟨_, _, rfl⟩
                    unfold Hid
                    rw [← hres2, ← hqt]
                    exact amtsN_f (by simp [chgB, ha, hf])
                  clear hres2 hsl
                  go_wp2
                  go_quiet ((go_at_call 117; exact Calls.quiet_of_same ((feeUp1_spec _ _ _ _).mono fun _ _ h => ⟨h.1, h.2.symm⟩)))
                  go_wp2_with (((go_at_call 118; refine (addAmt_spec _ _ _).mono ?_); rintro e w1 ⟨rfl, rfl⟩))
                  go_ret2
                  exact ⟨⟨none, 0, by rw [(r_none Hn.out).1, (r_none Hn.out).2]; rfl, by rw [(r_none Hn.out).1]; exact ⟨OwnI.nil _ _, rfl, by simp⟩⟩, below_drewN (below_alloc hB _)⟩
              | false =>
                cases hf : feeB sb sp m true with
                | true =>
                  have Hn : Hid (routeAmts l xs n = none) := by
                    obtain ⟨q2, t2, hqt⟩ : ∃ q2 t2, q2 :: t2 = (⟨rf, rt, rb, rp, rc⟩ : Rd) :: ((rdsOf l xs).take i).reverse := ⟨_, _, rfl⟩
                    unfold Hid
                    rw [← hres2, ← hqt]
                    exact amtsN_f (by simp [chgB, ha, hf])
                  clear hres2 hsl
                  go_wp2
                  go_quiet ((go_at_call 117; exact Calls.quiet_of_same ((feeUp1_spec _ _ _ _).mono fun _ _ h => ⟨h.1, h.2.symm⟩)))
                  go_wp2_with (((go_at_call 118; refine (addAmt_spec _ _ _).mono ?_); rintro e w1 ⟨rfl, rfl⟩))
                  go_ret2
                  exact ⟨⟨none, 0, by rw [(r_none Hn.out).1, (r_none Hn.out).2]; rfl, by rw [(r_none Hn.out).1]; exact ⟨OwnI.nil _ _, rfl, by simp⟩⟩, below_drewN (below_alloc hB _)⟩
                | false =>
                  have Hn : Hid (routeAmts l xs n = none) := by
                    obtain ⟨q2, t2, hqt⟩ : ∃ q2 t2, q2 :: t2 = (⟨rf, rt, rb, rp, rc⟩ : Rd) :: ((rdsOf l xs).take i).reverse := ⟨_, _, rfl⟩
                    unfold Hid
                    rw [← hres2, ← hqt]
                    exact amtsN_f (by simp [chgB, ha, hf])
                  clear hres2 hsl
                  go_wp2
                  go_quiet ((go_at_call 117; exact Calls.quiet_of_same ((feeUp1_spec _ _ _ _).mono fun _ _ h => ⟨h.1, h.2.symm⟩)))
                  go_wp2_with (((go_at_call 118; refine (addAmt_spec _ _ _).mono ?_); rintro e w1 ⟨rfl, rfl⟩))
                  go_ret2
                  exact ⟨⟨none, 0, by rw [(r_none Hn.out).1, (r_none Hn.out).2]; rfl, by rw [(r_none Hn.out).1]; exact ⟨OwnI.nil _ _, rfl, by simp⟩⟩, below_drewN (below_alloc hB _)⟩
          · obtain rfl : z = -1 := by omega
            have hown2 : OI wr w.heap.size (some ⟨g, 0, none⟩) len' len' acc := hown
            have hne : acc ≠ [] := by intro h; rw [h] at hown2; have := hown2.2.1; simp at this; omega
            obtain ⟨m, acc', rfl⟩ := List.exists_cons_of_ne_nil hne
            obtain ⟨q, hq, hres2⟩ := hres.out.2 m acc' rfl
            have hs : routeAmts l xs n = some (m :: acc') := hres2.symm
            have hlen := (routeAmts_out hs).1
            rw [Hln'.out] at hlen
            have Hs := Lib.hid hs
            have Hlen := Lib.hid hlen
            clear hs hlen hres hown hres2 hq hne
            go_wp2
            go_ret2
            rw [(r_some Hs.out).1, (r_some Hs.out).2, Hlen.out]
            exact ⟨⟨_, _, rfl, hown2⟩, hB⟩
    · have Hn : Hid (routeAmts l xs n = none) := if_neg (by simp [ham])
      go_enter Tryd.func105, Tryd.ntmps105
      go_wp2_with (((first | (go_at_call 81; refine (routeOk_spec _ _ _ _ _ _ _ _ _ (by (first | (with_reducible assumption) | (with_reducible exact OF.fs (fun _ => rfl) (by assumption)) | (refine FS.keep (by with_reducible assumption) ?_; (repeat (first | (with_reducible assumption) | (with_reducible exact Below.refl _ _) | (with_reducible refine Below.setCell ?_ (by first | (simp; done) | (simp [*]; done)) _) | (with_reducible refine below_alloc ?_ _) | (with_reducible refine Below.drew ?_) | (with_reducible refine below_drewN ?_)))) | (refine OF.fs (fun _ => rfl) (OF.keep (by with_reducible assumption) ?_); (repeat (first | (with_reducible assumption) | (with_reducible exact Below.refl _ _) | (with_reducible refine Below.setCell ?_ (by first | (simp; done) | (simp [*]; done)) _) | (with_reducible refine below_alloc ?_ _) | (with_reducible refine Below.drew ?_) | (with_reducible refine below_drewN ?_)))))) (by (first | (with_reducible assumption) | (with_reducible exact OI.is (by assumption)) | (refine IS.keep (by with_reducible assumption) ?_; (repeat (first | (with_reducible assumption) | (with_reducible exact Below.refl _ _) | (with_reducible refine Below.setCell ?_ (by first | (simp; done) | (simp [*]; done)) _) | (with_reducible refine below_alloc ?_ _) | (with_reducible refine Below.drew ?_) | (with_reducible refine below_drewN ?_)))) | (refine OI.is (OI.keep (by with_reducible assumption) ?_); (repeat (first | (with_reducible assumption) | (with_reducible exact Below.refl _ _) | (with_reducible refine Below.setCell ?_ (by first | (simp; done) | (simp [*]; done)) _) | (with_reducible refine below_alloc ?_ _) | (with_reducible refine Below.drew ?_) | (with_reducible refine below_drewN ?_))))))).mono ?_) | (go_at_call 57; refine (amtOk_spec _ _).mono ?_) | (go_at_call 117; refine (feeUp1_spec _ _ _ _).mono ?_) | (go_at_call 118; refine (addAmt_spec _ _ _).mono ?_)); (first | (rintro e w1 ⟨rfl, rfl⟩) | (rintro e w1 ⟨rfl, hb⟩; (try (replace H0 := below_upd H0 hb (by (repeat (first | (with_reducible assumption) | (with_reducible exact Below.refl _ _) | (with_reducible refine Below.setCell ?_ (by first | (simp; done) | (simp [*]; done)) _) | (with_reducible refine below_alloc ?_ _) | (with_reducible refine Below.drew ?_) | (with_reducible refine below_drewN ?_)))); clear hc0 hf0 hs0 hz0; obtain ⟨hc0, hf0, hs0, hz0⟩ := brules H0)); (try (replace H1 := below_upd H1 hb (by (repeat (first | (with_reducible assumption) | (with_reducible exact Below.refl _ _) | (with_reducible refine Below.setCell ?_ (by first | (simp; done) | (simp [*]; done)) _) | (with_reducible refine below_alloc ?_ _) | (with_reducible refine Below.drew ?_) | (with_reducible refine below_drewN ?_)))); clear hc1 hf1 hs1 hz1; obtain ⟨hc1, hf1, hs1, hz1⟩ := brules H1)); (try (replace H2 := below_upd H2 hb (by (repeat (first | (with_reducible assumption) | (with_reducible exact Below.refl _ _) | (with_reducible refine Below.setCell ?_ (by first | (simp; done) | (simp [*]; done)) _) | (with_reducible refine below_alloc ?_ _) | (with_reducible refine Below.drew ?_) | (with_reducible refine below_drewN ?_)))); clear hc2 hf2 hs2 hz2; obtain ⟨hc2, hf2, hs2, hz2⟩ := brules H2)); (try replace S0 := S0.keep (below_via hb (by (repeat (first | (with_reducible assumption) | (with_reducible exact Below.refl _ _) | (with_reducible refine Below.setCell ?_ (by first | (simp; done) | (simp [*]; done)) _) | (with_reducible refine below_alloc ?_ _) | (with_reducible refine Below.drew ?_) | (with_reducible refine below_drewN ?_)))))); (try replace S1 := S1.keep (below_via hb (by (repeat (first | (with_reducible assumption) | (with_reducible exact Below.refl _ _) | (with_reducible refine Below.setCell ?_ (by first | (simp; done) | (simp [*]; done)) _) | (with_reducible refine below_alloc ?_ _) | (with_reducible refine Below.drew ?_) | (with_reducible refine below_drewN ?_)))))); (try replace S2 := S2.keep (below_via hb (by (repeat (first | (with_reducible assumption) | (with_reducible exact Below.refl _ _) | (with_reducible refine Below.setCell ?_ (by first | (simp; done) | (simp [*]; done)) _) | (with_reducible refine below_alloc ?_ _) | (with_reducible refine Below.drew ?_) | (with_reducible refine below_drewN ?_)))))); (try replace S3 := S3.keep (below_via hb (by (repeat (first | (with_reducible assumption) | (with_reducible exact Below.refl _ _) | (with_reducible refine Below.setCell ?_ (by first | (simp; done) | (simp [*]; done)) _) | (with_reducible refine below_alloc ?_ _) | (with_reducible refine Below.drew ?_) | (with_reducible refine below_drewN ?_)))))); (first | ((fail_if_success (have ht := H0)); have H0 := hb; obtain ⟨hc0, hf0, hs0, hz0⟩ := brules H0) | ((fail_if_success (have ht := H1)); have H1 := hb; obtain ⟨hc1, hf1, hs1, hz1⟩ := brules H1) | ((fail_if_success (have ht := H2)); have H2 := hb; obtain ⟨hc2, hf2, hs2, hz2⟩ := brules H2) | skip)))))
      go_ret2
      exact ⟨⟨none, 0, by rw [(r_none Hn.out).1, (r_none Hn.out).2]; rfl, by rw [(r_none Hn.out).1]; exact ⟨OwnI.nil _ _, rfl, by simp⟩⟩, by (repeat (first | (with_reducible exact Below.refl _ _) | (with_reducible assumption) | (with_reducible refine Below.setCell ?_ ?side _; case side => first | (with_reducible exact Nat.le_refl _) | (simp; done) | (simp only [World.size_alloc, World.size_setCell, World.size_drew, World.heap_drewN] at *; omega)) | (with_reducible refine below_alloc ?_ _) | (with_reducible refine Below.drew ?_) | (with_reducible refine below_drewN ?_) | (with_reducible refine below_via (by assumption) ?_)))⟩
  · have Hn0 : Hid (rAmtsS l xs n = [] ∧ rOkS l xs n = false) := by
      unfold Hid rAmtsS rOkS
      by_cases h1 : roadsOk l = true
      · have h2 : routeB l xs = false := by rw [routeOkS, h1, Bool.true_and] at hro; simpa using hro
        have h3 : routeAmts l xs n = none := if_neg (by simp [h2])
        rw [if_pos h1, (r_none h3).1, (r_none h3).2, Bool.and_false]; exact ⟨rfl, rfl⟩
      · rw [if_neg h1, Bool.eq_false_iff.2 h1]; exact ⟨rfl, rfl⟩
    rw [Hn0.out.1, Hn0.out.2]
    go_enter Tryd.func105, Tryd.ntmps105
    go_wp2_with (((first | (go_at_call 81; refine (routeOk_spec _ _ _ _ _ _ _ _ _ (by (first | (with_reducible assumption) | (with_reducible exact OF.fs (fun _ => rfl) (by assumption)) | (refine FS.keep (by with_reducible assumption) ?_; (repeat (first | (with_reducible assumption) | (with_reducible exact Below.refl _ _) | (with_reducible refine Below.setCell ?_ (by first | (simp; done) | (simp [*]; done)) _) | (with_reducible refine below_alloc ?_ _) | (with_reducible refine Below.drew ?_) | (with_reducible refine below_drewN ?_)))) | (refine OF.fs (fun _ => rfl) (OF.keep (by with_reducible assumption) ?_); (repeat (first | (with_reducible assumption) | (with_reducible exact Below.refl _ _) | (with_reducible refine Below.setCell ?_ (by first | (simp; done) | (simp [*]; done)) _) | (with_reducible refine below_alloc ?_ _) | (with_reducible refine Below.drew ?_) | (with_reducible refine below_drewN ?_)))))) (by (first | (with_reducible assumption) | (with_reducible exact OI.is (by assumption)) | (refine IS.keep (by with_reducible assumption) ?_; (repeat (first | (with_reducible assumption) | (with_reducible exact Below.refl _ _) | (with_reducible refine Below.setCell ?_ (by first | (simp; done) | (simp [*]; done)) _) | (with_reducible refine below_alloc ?_ _) | (with_reducible refine Below.drew ?_) | (with_reducible refine below_drewN ?_)))) | (refine OI.is (OI.keep (by with_reducible assumption) ?_); (repeat (first | (with_reducible assumption) | (with_reducible exact Below.refl _ _) | (with_reducible refine Below.setCell ?_ (by first | (simp; done) | (simp [*]; done)) _) | (with_reducible refine below_alloc ?_ _) | (with_reducible refine Below.drew ?_) | (with_reducible refine below_drewN ?_))))))).mono ?_) | (go_at_call 57; refine (amtOk_spec _ _).mono ?_) | (go_at_call 117; refine (feeUp1_spec _ _ _ _).mono ?_) | (go_at_call 118; refine (addAmt_spec _ _ _).mono ?_)); (first | (rintro e w1 ⟨rfl, rfl⟩) | (rintro e w1 ⟨rfl, hb⟩; (try (replace H0 := below_upd H0 hb (by (repeat (first | (with_reducible assumption) | (with_reducible exact Below.refl _ _) | (with_reducible refine Below.setCell ?_ (by first | (simp; done) | (simp [*]; done)) _) | (with_reducible refine below_alloc ?_ _) | (with_reducible refine Below.drew ?_) | (with_reducible refine below_drewN ?_)))); clear hc0 hf0 hs0 hz0; obtain ⟨hc0, hf0, hs0, hz0⟩ := brules H0)); (try (replace H1 := below_upd H1 hb (by (repeat (first | (with_reducible assumption) | (with_reducible exact Below.refl _ _) | (with_reducible refine Below.setCell ?_ (by first | (simp; done) | (simp [*]; done)) _) | (with_reducible refine below_alloc ?_ _) | (with_reducible refine Below.drew ?_) | (with_reducible refine below_drewN ?_)))); clear hc1 hf1 hs1 hz1; obtain ⟨hc1, hf1, hs1, hz1⟩ := brules H1)); (try (replace H2 := below_upd H2 hb (by (repeat (first | (with_reducible assumption) | (with_reducible exact Below.refl _ _) | (with_reducible refine Below.setCell ?_ (by first | (simp; done) | (simp [*]; done)) _) | (with_reducible refine below_alloc ?_ _) | (with_reducible refine Below.drew ?_) | (with_reducible refine below_drewN ?_)))); clear hc2 hf2 hs2 hz2; obtain ⟨hc2, hf2, hs2, hz2⟩ := brules H2)); (try replace S0 := S0.keep (below_via hb (by (repeat (first | (with_reducible assumption) | (with_reducible exact Below.refl _ _) | (with_reducible refine Below.setCell ?_ (by first | (simp; done) | (simp [*]; done)) _) | (with_reducible refine below_alloc ?_ _) | (with_reducible refine Below.drew ?_) | (with_reducible refine below_drewN ?_)))))); (try replace S1 := S1.keep (below_via hb (by (repeat (first | (with_reducible assumption) | (with_reducible exact Below.refl _ _) | (with_reducible refine Below.setCell ?_ (by first | (simp; done) | (simp [*]; done)) _) | (with_reducible refine below_alloc ?_ _) | (with_reducible refine Below.drew ?_) | (with_reducible refine below_drewN ?_)))))); (try replace S2 := S2.keep (below_via hb (by (repeat (first | (with_reducible assumption) | (with_reducible exact Below.refl _ _) | (with_reducible refine Below.setCell ?_ (by first | (simp; done) | (simp [*]; done)) _) | (with_reducible refine below_alloc ?_ _) | (with_reducible refine Below.drew ?_) | (with_reducible refine below_drewN ?_)))))); (try replace S3 := S3.keep (below_via hb (by (repeat (first | (with_reducible assumption) | (with_reducible exact Below.refl _ _) | (with_reducible refine Below.setCell ?_ (by first | (simp; done) | (simp [*]; done)) _) | (with_reducible refine below_alloc ?_ _) | (with_reducible refine Below.drew ?_) | (with_reducible refine below_drewN ?_)))))); (first | ((fail_if_success (have ht := H0)); have H0 := hb; obtain ⟨hc0, hf0, hs0, hz0⟩ := brules H0) | ((fail_if_success (have ht := H1)); have H1 := hb; obtain ⟨hc1, hf1, hs1, hz1⟩ := brules H1) | ((fail_if_success (have ht := H2)); have H2 := hb; obtain ⟨hc2, hf2, hs2, hz2⟩ := brules H2) | skip)))))
    go_ret2
    exact ⟨⟨none, 0, rfl, OwnI.nil _ _, rfl, by simp⟩, by (repeat (first | (with_reducible exact Below.refl _ _) | (with_reducible assumption) | (with_reducible refine Below.setCell ?_ ?side _; case side => first | (with_reducible exact Nat.le_refl _) | (simp; done) | (simp only [World.size_alloc, World.size_setCell, World.size_drew, World.heap_drewN] at *; omega)) | (with_reducible refine below_alloc ?_ _) | (with_reducible refine Below.drew ?_) | (with_reducible refine below_drewN ?_) | (with_reducible refine below_via (by assumption) ?_)))⟩

end Go.Proofs.YtegnlijgjcfmlaaDoor
