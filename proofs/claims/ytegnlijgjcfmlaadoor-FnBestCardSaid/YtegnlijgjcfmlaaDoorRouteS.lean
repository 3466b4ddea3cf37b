/- Routes: the reference. -/
import Derived.Test.YtegnlijgjcfmlaaDoorRoute
namespace Go.Proofs.YtegnlijgjcfmlaaDoor
open Go.RowKit
set_option linter.unusedVariables false
set_option linter.unusedSimpArgs false

noncomputable def routeOkS (l : List Rd) (xs : List Int) : Bool := roadsOk l && routeB l xs
theorem routeB_len {l : List Rd} {xs : List Int} (h : ¬ (1 ≤ xs.length ∧ xs.length ≤ 8)) : routeB l xs = false := by simp [routeB, h]

set_option maxHeartbeats 1000000 in
theorem routeOk_spec (a : Option Addr) (len cap : Nat) (a' : Option Addr) (len' cap' : Nat) (l : List Rd) (xs : List Int) (w : World) (hR0 : RdS w w.heap.size a len l) (hI0 : IS w w.heap.size a' len' xs) :
    Calls Tryd.prog 81 #[.slice a len cap, .slice a' len' cap'] w fun e w' => e = .returned (.bool (routeOkS l xs)) ∧ Below w.heap.size w w' := by
  have hl := hR0.lenB
  have hl' := hI0.len
  have Hln := Lib.hid hR0.1
  have Hln' := Lib.hid hI0.1
  by_cases hro : roadsOk l = true
  · have Hro := Lib.hid hro
    by_cases h1 : len' < 1
    · have Hf : Hid (routeOkS l xs = false) := by unfold Hid; rw [routeOkS, routeB_len (by have := Hln'.out; omega), Bool.and_false]
      go_enter Tryd.func81, Tryd.ntmps81
      go_wp2_with (((first | (go_at_call 41; refine (roadsOk_spec _ _ _ _ _ (by (first | (with_reducible assumption) | (with_reducible exact OF.fs (fun _ => rfl) (by assumption)) | (refine FS.keep (by with_reducible assumption) ?_; (repeat (first | (with_reducible assumption) | (with_reducible exact Below.refl _ _) | (with_reducible refine Below.setCell ?_ (by first | (simp; done) | (simp [*]; done)) _) | (with_reducible refine below_alloc ?_ _) | (with_reducible refine Below.drew ?_) | (with_reducible refine below_drewN ?_)))) | (refine OF.fs (fun _ => rfl) (OF.keep (by with_reducible assumption) ?_); (repeat (first | (with_reducible assumption) | (with_reducible exact Below.refl _ _) | (with_reducible refine Below.setCell ?_ (by first | (simp; done) | (simp [*]; done)) _) | (with_reducible refine below_alloc ?_ _) | (with_reducible refine Below.drew ?_) | (with_reducible refine below_drewN ?_))))))).mono ?_) | (go_at_call 104; refine (hasInt_spec _ _ _ _ _ _ (by (first | (with_reducible assumption) | (with_reducible exact OI.is (by assumption)) | (refine IS.keep (by with_reducible assumption) ?_; (repeat (first | (with_reducible assumption) | (with_reducible exact Below.refl _ _) | (with_reducible refine Below.setCell ?_ (by first | (simp; done) | (simp [*]; done)) _) | (with_reducible refine below_alloc ?_ _) | (with_reducible refine Below.drew ?_) | (with_reducible refine below_drewN ?_)))) | (refine OI.is (OI.keep (by with_reducible assumption) ?_); (repeat (first | (with_reducible assumption) | (with_reducible exact Below.refl _ _) | (with_reducible refine Below.setCell ?_ (by first | (simp; done) | (simp [*]; done)) _) | (with_reducible refine below_alloc ?_ _) | (with_reducible refine Below.drew ?_) | (with_reducible refine below_drewN ?_))))))).mono ?_)); (first | (rintro e w1 ⟨rfl, rfl⟩) | (rintro e w1 ⟨rfl, hb⟩; (try (replace H0 := below_upd H0 hb (by (repeat (first | (with_reducible assumption) | (with_reducible exact Below.refl _ _) | (with_reducible refine Below.setCell ?_ (by first | (simp; done) | (simp [*]; done)) _) | (with_reducible refine below_alloc ?_ _) | (with_reducible refine Below.drew ?_) | (with_reducible refine below_drewN ?_)))); clear hc0 hf0 hs0 hz0; obtain ⟨hc0, hf0, hs0, hz0⟩ := brules H0)); (try (replace H1 := below_upd H1 hb (by (repeat (first | (with_reducible assumption) | (with_reducible exact Below.refl _ _) | (with_reducible refine Below.setCell ?_ (by first | (simp; done) | (simp [*]; done)) _) | (with_reducible refine below_alloc ?_ _) | (with_reducible refine Below.drew ?_) | (with_reducible refine below_drewN ?_)))); clear hc1 hf1 hs1 hz1; obtain ⟨hc1, hf1, hs1, hz1⟩ := brules H1)); (try (replace H2 := below_upd H2 hb (by (repeat (first | (with_reducible assumption) | (with_reducible exact Below.refl _ _) | (with_reducible refine Below.setCell ?_ (by first | (simp; done) | (simp [*]; done)) _) | (with_reducible refine below_alloc ?_ _) | (with_reducible refine Below.drew ?_) | (with_reducible refine below_drewN ?_)))); clear hc2 hf2 hs2 hz2; obtain ⟨hc2, hf2, hs2, hz2⟩ := brules H2)); (try replace S0 := S0.keep (below_via hb (by (repeat (first | (with_reducible assumption) | (with_reducible exact Below.refl _ _) | (with_reducible refine Below.setCell ?_ (by first | (simp; done) | (simp [*]; done)) _) | (with_reducible refine below_alloc ?_ _) | (with_reducible refine Below.drew ?_) | (with_reducible refine below_drewN ?_)))))); (try replace S1 := S1.keep (below_via hb (by (repeat (first | (with_reducible assumption) | (with_reducible exact Below.refl _ _) | (with_reducible refine Below.setCell ?_ (by first | (simp; done) | (simp [*]; done)) _) | (with_reducible refine below_alloc ?_ _) | (with_reducible refine Below.drew ?_) | (with_reducible refine below_drewN ?_)))))); (try replace S2 := S2.keep (below_via hb (by (repeat (first | (with_reducible assumption) | (with_reducible exact Below.refl _ _) | (with_reducible refine Below.setCell ?_ (by first | (simp; done) | (simp [*]; done)) _) | (with_reducible refine below_alloc ?_ _) | (with_reducible refine Below.drew ?_) | (with_reducible refine below_drewN ?_)))))); (try replace S3 := S3.keep (below_via hb (by (repeat (first | (with_reducible assumption) | (with_reducible exact Below.refl _ _) | (with_reducible refine Below.setCell ?_ (by first | (simp; done) | (simp [*]; done)) _) | (with_reducible refine below_alloc ?_ _) | (with_reducible refine Below.drew ?_) | (with_reducible refine below_drewN ?_)))))); (first | ((fail_if_success (have ht := H0)); have H0 := hb; obtain ⟨hc0, hf0, hs0, hz0⟩ := brules H0) | ((fail_if_success (have ht := H1)); have H1 := hb; obtain ⟨hc1, hf1, hs1, hz1⟩ := brules H1) | ((fail_if_success (have ht := H2)); have H2 := hb; obtain ⟨hc2, hf2, hs2, hz2⟩ := brules H2) | skip)))))
      go_ret
      exact ⟨ret_bool (by rw [Hf.out]), by (repeat (first | (with_reducible exact Below.refl _ _) | (with_reducible assumption) | (with_reducible refine Below.setCell ?_ ?side _; case side => first | (with_reducible exact Nat.le_refl _) | (simp; done) | (simp only [World.size_alloc, World.size_setCell, World.size_drew, World.heap_drewN] at *; omega)) | (with_reducible refine below_alloc ?_ _) | (with_reducible refine Below.drew ?_) | (with_reducible refine below_drewN ?_) | (with_reducible refine below_via (by assumption) ?_)))⟩
    · by_cases h2 : 8 < len'
      · have Hf : Hid (routeOkS l xs = false) := by unfold Hid; rw [routeOkS, routeB_len (by have := Hln'.out; omega), Bool.and_false]
        go_enter Tryd.func81, Tryd.ntmps81
        go_wp2_with (((first | (go_at_call 41; refine (roadsOk_spec _ _ _ _ _ (by (first | (with_reducible assumption) | (with_reducible exact OF.fs (fun _ => rfl) (by assumption)) | (refine FS.keep (by with_reducible assumption) ?_; (repeat (first | (with_reducible assumption) | (with_reducible exact Below.refl _ _) | (with_reducible refine Below.setCell ?_ (by first | (simp; done) | (simp [*]; done)) _) | (with_reducible refine below_alloc ?_ _) | (with_reducible refine Below.drew ?_) | (with_reducible refine below_drewN ?_)))) | (refine OF.fs (fun _ => rfl) (OF.keep (by with_reducible assumption) ?_); (repeat (first | (with_reducible assumption) | (with_reducible exact Below.refl _ _) | (with_reducible refine Below.setCell ?_ (by first | (simp; done) | (simp [*]; done)) _) | (with_reducible refine below_alloc ?_ _) | (with_reducible refine Below.drew ?_) | (with_reducible refine below_drewN ?_))))))).mono ?_) | (go_at_call 104; refine (hasInt_spec _ _ _ _ _ _ (by (first | (with_reducible assumption) | (with_reducible exact OI.is (by assumption)) | (refine IS.keep (by with_reducible assumption) ?_; (repeat (first | (with_reducible assumption) | (with_reducible exact Below.refl _ _) | (with_reducible refine Below.setCell ?_ (by first | (simp; done) | (simp [*]; done)) _) | (with_reducible refine below_alloc ?_ _) | (with_reducible refine Below.drew ?_) | (with_reducible refine below_drewN ?_)))) | (refine OI.is (OI.keep (by with_reducible assumption) ?_); (repeat (first | (with_reducible assumption) | (with_reducible exact Below.refl _ _) | (with_reducible refine Below.setCell ?_ (by first | (simp; done) | (simp [*]; done)) _) | (with_reducible refine below_alloc ?_ _) | (with_reducible refine Below.drew ?_) | (with_reducible refine below_drewN ?_))))))).mono ?_)); (first | (rintro e w1 ⟨rfl, rfl⟩) | (rintro e w1 ⟨rfl, hb⟩; (try (replace H0 := below_upd H0 hb (by (repeat (first | (with_reducible assumption) | (with_reducible exact Below.refl _ _) | (with_reducible refine Below.setCell ?_ (by first | (simp; done) | (simp [*]; done)) _) | (with_reducible refine below_alloc ?_ _) | (with_reducible refine Below.drew ?_) | (with_reducible refine below_drewN ?_)))); clear hc0 hf0 hs0 hz0; obtain ⟨hc0, hf0, hs0, hz0⟩ := brules H0)); (try (replace H1 := below_upd H1 hb (by (repeat (first | (with_reducible assumption) | (with_reducible exact Below.refl _ _) | (with_reducible refine Below.setCell ?_ (by first | (simp; done) | (simp [*]; done)) _) | (with_reducible refine below_alloc ?_ _) | (with_reducible refine Below.drew ?_) | (with_reducible refine below_drewN ?_)))); clear hc1 hf1 hs1 hz1; obtain ⟨hc1, hf1, hs1, hz1⟩ := brules H1)); (try (replace H2 := below_upd H2 hb (by (repeat (first | (with_reducible assumption) | (with_reducible exact Below.refl _ _) | (with_reducible refine Below.setCell ?_ (by first | (simp; done) | (simp [*]; done)) _) | (with_reducible refine below_alloc ?_ _) | (with_reducible refine Below.drew ?_) | (with_reducible refine below_drewN ?_)))); clear hc2 hf2 hs2 hz2; obtain ⟨hc2, hf2, hs2, hz2⟩ := brules H2)); (try replace S0 := S0.keep (below_via hb (by (repeat (first | (with_reducible assumption) | (with_reducible exact Below.refl _ _) | (with_reducible refine Below.setCell ?_ (by first | (simp; done) | (simp [*]; done)) _) | (with_reducible refine below_alloc ?_ _) | (with_reducible refine Below.drew ?_) | (with_reducible refine below_drewN ?_)))))); (try replace S1 := S1.keep (below_via hb (by (repeat (first | (with_reducible assumption) | (with_reducible exact Below.refl _ _) | (with_reducible refine Below.setCell ?_ (by first | (simp; done) | (simp [*]; done)) _) | (with_reducible refine below_alloc ?_ _) | (with_reducible refine Below.drew ?_) | (with_reducible refine below_drewN ?_)))))); (try replace S2 := S2.keep (below_via hb (by (repeat (first | (with_reducible assumption) | (with_reducible exact Below.refl _ _) | (with_reducible refine Below.setCell ?_ (by first | (simp; done) | (simp [*]; done)) _) | (with_reducible refine below_alloc ?_ _) | (with_reducible refine Below.drew ?_) | (with_reducible refine below_drewN ?_)))))); (try replace S3 := S3.keep (below_via hb (by (repeat (first | (with_reducible assumption) | (with_reducible exact Below.refl _ _) | (with_reducible refine Below.setCell ?_ (by first | (simp; done) | (simp [*]; done)) _) | (with_reducible refine below_alloc ?_ _) | (with_reducible refine Below.drew ?_) | (with_reducible refine below_drewN ?_)))))); (first | ((fail_if_success (have ht := H0)); have H0 := hb; obtain ⟨hc0, hf0, hs0, hz0⟩ := brules H0) | ((fail_if_success (have ht := H1)); have H1 := hb; obtain ⟨hc1, hf1, hs1, hz1⟩ := brules H1) | ((fail_if_success (have ht := H2)); have H2 := hb; obtain ⟨hc2, hf2, hs2, hz2⟩ := brules H2) | skip)))))
        go_ret
        exact ⟨ret_bool (by rw [Hf.out]), by (repeat (first | (with_reducible exact Below.refl _ _) | (with_reducible assumption) | (with_reducible refine Below.setCell ?_ ?side _; case side => first | (with_reducible exact Nat.le_refl _) | (simp; done) | (simp only [World.size_alloc, World.size_setCell, World.size_drew, World.heap_drewN] at *; omega)) | (with_reducible refine below_alloc ?_ _) | (with_reducible refine Below.drew ?_) | (with_reducible refine below_drewN ?_) | (with_reducible refine below_via (by assumption) ?_)))⟩
      · have Hpost : Hid (routeOkS l xs = routeB l xs) := by unfold Hid; rw [routeOkS, Hro.out, Bool.true_and]
        go_enter Tryd.func81, Tryd.ntmps81
        go_wp2_with (((first | (go_at_call 41; refine (roadsOk_spec _ _ _ _ _ (by (first | (with_reducible assumption) | (with_reducible exact OF.fs (fun _ => rfl) (by assumption)) | (refine FS.keep (by with_reducible assumption) ?_; (repeat (first | (with_reducible assumption) | (with_reducible exact Below.refl _ _) | (with_reducible refine Below.setCell ?_ (by first | (simp; done) | (simp [*]; done)) _) | (with_reducible refine below_alloc ?_ _) | (with_reducible refine Below.drew ?_) | (with_reducible refine below_drewN ?_)))) | (refine OF.fs (fun _ => rfl) (OF.keep (by with_reducible assumption) ?_); (repeat (first | (with_reducible assumption) | (with_reducible exact Below.refl _ _) | (with_reducible refine Below.setCell ?_ (by first | (simp; done) | (simp [*]; done)) _) | (with_reducible refine below_alloc ?_ _) | (with_reducible refine Below.drew ?_) | (with_reducible refine below_drewN ?_))))))).mono ?_) | (go_at_call 104; refine (hasInt_spec _ _ _ _ _ _ (by (first | (with_reducible assumption) | (with_reducible exact OI.is (by assumption)) | (refine IS.keep (by with_reducible assumption) ?_; (repeat (first | (with_reducible assumption) | (with_reducible exact Below.refl _ _) | (with_reducible refine Below.setCell ?_ (by first | (simp; done) | (simp [*]; done)) _) | (with_reducible refine below_alloc ?_ _) | (with_reducible refine Below.drew ?_) | (with_reducible refine below_drewN ?_)))) | (refine OI.is (OI.keep (by with_reducible assumption) ?_); (repeat (first | (with_reducible assumption) | (with_reducible exact Below.refl _ _) | (with_reducible refine Below.setCell ?_ (by first | (simp; done) | (simp [*]; done)) _) | (with_reducible refine below_alloc ?_ _) | (with_reducible refine Below.drew ?_) | (with_reducible refine below_drewN ?_))))))).mono ?_)); (first | (rintro e w1 ⟨rfl, rfl⟩) | (rintro e w1 ⟨rfl, hb⟩; (try (replace H0 := below_upd H0 hb (by (repeat (first | (with_reducible assumption) | (with_reducible exact Below.refl _ _) | (with_reducible refine Below.setCell ?_ (by first | (simp; done) | (simp [*]; done)) _) | (with_reducible refine below_alloc ?_ _) | (with_reducible refine Below.drew ?_) | (with_reducible refine below_drewN ?_)))); clear hc0 hf0 hs0 hz0; obtain ⟨hc0, hf0, hs0, hz0⟩ := brules H0)); (try (replace H1 := below_upd H1 hb (by (repeat (first | (with_reducible assumption) | (with_reducible exact Below.refl _ _) | (with_reducible refine Below.setCell ?_ (by first | (simp; done) | (simp [*]; done)) _) | (with_reducible refine below_alloc ?_ _) | (with_reducible refine Below.drew ?_) | (with_reducible refine below_drewN ?_)))); clear hc1 hf1 hs1 hz1; obtain ⟨hc1, hf1, hs1, hz1⟩ := brules H1)); (try (replace H2 := below_upd H2 hb (by (repeat (first | (with_reducible assumption) | (with_reducible exact Below.refl _ _) | (with_reducible refine Below.setCell ?_ (by first | (simp; done) | (simp [*]; done)) _) | (with_reducible refine below_alloc ?_ _) | (with_reducible refine Below.drew ?_) | (with_reducible refine below_drewN ?_)))); clear hc2 hf2 hs2 hz2; obtain ⟨hc2, hf2, hs2, hz2⟩ := brules H2)); (try replace S0 := S0.keep (below_via hb (by (repeat (first | (with_reducible assumption) | (with_reducible exact Below.refl _ _) | (with_reducible refine Below.setCell ?_ (by first | (simp; done) | (simp [*]; done)) _) | (with_reducible refine below_alloc ?_ _) | (with_reducible refine Below.drew ?_) | (with_reducible refine below_drewN ?_)))))); (try replace S1 := S1.keep (below_via hb (by (repeat (first | (with_reducible assumption) | (with_reducible exact Below.refl _ _) | (with_reducible refine Below.setCell ?_ (by first | (simp; done) | (simp [*]; done)) _) | (with_reducible refine below_alloc ?_ _) | (with_reducible refine Below.drew ?_) | (with_reducible refine below_drewN ?_)))))); (try replace S2 := S2.keep (below_via hb (by (repeat (first | (with_reducible assumption) | (with_reducible exact Below.refl _ _) | (with_reducible refine Below.setCell ?_ (by first | (simp; done) | (simp [*]; done)) _) | (with_reducible refine below_alloc ?_ _) | (with_reducible refine Below.drew ?_) | (with_reducible refine below_drewN ?_)))))); (try replace S3 := S3.keep (below_via hb (by (repeat (first | (with_reducible assumption) | (with_reducible exact Below.refl _ _) | (with_reducible refine Below.setCell ?_ (by first | (simp; done) | (simp [*]; done)) _) | (with_reducible refine below_alloc ?_ _) | (with_reducible refine Below.drew ?_) | (with_reducible refine below_drewN ?_)))))); (first | ((fail_if_success (have ht := H0)); have H0 := hb; obtain ⟨hc0, hf0, hs0, hz0⟩ := brules H0) | ((fail_if_success (have ht := H1)); have H1 := hb; obtain ⟨hc1, hf1, hs1, hz1⟩ := brules H1) | ((fail_if_success (have ht := H2)); have H2 := hb; obtain ⟨hc2, hf2, hs2, hz2⟩ := brules H2) | skip)))))
        have hs := FS.keep hR0 hb
        have hs' := hI0.keep hb
        have Hb := Lib.hid hb
        have hz1 := hb.size
        obtain ⟨wq, rfl⟩ : ∃ wq : World, wq = w1 := ⟨_, rfl⟩
        clear hb hR0 hI0 hro H0 hc0 hf0 hs0 hz0
        go_loopw [5, 6, 7, 24] (fun v _ _ i wr => ∃ (k : Nat) (ps : List Int), k ≤ len' ∧ i = .int .i64 k ∧ Hid (goR l [] (xs.take k) = some ps) ∧ Hid (ps.length = if k = 0 then 0 else k + 1) ∧ Hid (∀ y ∈ ps, I64 y) ∧ Hid (∀ m, k = m + 1 → ∃ (y : Nat) (ry : Rd), xs[m]? = some (y : Int) ∧ l[y]? = some ry ∧ ps.getLast? = some ry.t) ∧ OwnI wr wq.heap.size v ps ∧ Below wq.heap.size wq wr) (fun _ _ _ i _ => len' - (intOf i).toNat)
        case atStart => exact ⟨0, [], Nat.zero_le _, rfl, rfl, rfl, by simp [Hid], fun m h => by omega, OwnI.made _ _ (Nat.le_refl _), below_alloc (Below.refl _ _) _⟩
        case round =>
          obtain ⟨k, ps, hk, rfl, hgo, hpl, hpb, hpv, hown, hB⟩ := hrel
          have Hbb : Hid (Below w.heap.size w wr) := below_via hB Hb.out
          by_cases hlt : k < len'
          · obtain ⟨b', off', x, rfl, hb', hc', hbd', hx, hxs⟩ := (hs'.keep hB).at_ hlt
            by_cases hneg : x < 0
            · have Hf := Lib.hid (routeB_bad hgo.out hx.out (stepR_out (by rw [Hln.out]; simp [inB]; omega)))
              go_wp2
              go_quiet (fail)
              go_wp2
              go_ret
              exact ⟨ret_bool (by rw [Hpost.out, Hf.out]), below_drewN Hbb.out⟩
            · have t1 : decide (x < 0) = false := by simp; omega
              by_cases hge : (len : Int) ≤ x
              · have t2 : decide ((len : Int) ≤ x) = true := by simp; omega
                have Hf := Lib.hid (routeB_bad hgo.out hx.out (stepR_out (by rw [Hln.out]; simp [inB]; omega)))
                go_wp2
                go_quiet (fail)
                go_wp2
                go_ret
                exact ⟨ret_bool (by rw [Hpost.out, Hf.out]), below_drewN Hbb.out⟩
              · obtain ⟨i, rfl⟩ := Int.eq_ofNat_of_zero_le (show 0 ≤ x by omega)
                have hil : i < len := by omega
                have t2 : decide ((len : Int) ≤ (i : Int)) = false := by simp; omega
                have t3 : decide (len ≤ i) = false := by simp; omega
                obtain ⟨g, off, rf, rt, rb, rp, rc, rfl, hg, e0, e1, c2, c3, c4, o0, o1, o2, o3, o4, hr, _⟩ := RdS.cells hs hil
                have c0 := cell_keep hB e0
                have c1 := cell_keep hB e1
                clear c2 c3 c4 o2 o3 o4 hneg hge
                have Hstep := Lib.hid (stepR_in (ps := ps) hr.out)
                have Hri := Lib.hid o0
                have Hti := Lib.hid o1
                clear o0 o1
                rcases Nat.eq_zero_or_pos k with hk0 | hk0
                · subst hk0
                  simp only [Nat.add_zero] at hc'
                  have hps : ps = [] := List.eq_nil_of_length_eq_zero hpl.out
                  subst hps
                  have hhd : headR [] rf = [rf] := rfl
                  have Hprev : Hid (∀ m, 0 + 1 = m + 1 → ∃ (y : Nat) (ry : Rd), xs[m]? = some (y : Int) ∧ l[y]? = some ry ∧ [rf, rt].getLast? = some ry.t) := by
                    intro m hm
                    obtain rfl : m = 0 := by omega
                    exact ⟨i, _, hx.out, hr.out, rfl⟩
                  by_cases hh : hasB [rf] rt = true
                  · have Hf := Lib.hid (routeB_bad hgo.out hx.out (by rw [Hstep.out, hhd]; simp [hh]))
                    clear hhd
                    go_wp2
                    go_quiet (fail)
                    have hownd := OwnI.drewN hown nq
                    go_wp2_with (at_builtin; refine wpList_append_int rfl _ _ rfl wq.heap.size _ _ rfl (hownd.alloc _) _ _ rfl (new_cell0 _ _ _) (by simp) (Nat.le_trans hB.size (size_alloc_le _ _)) ?_)
                    intro v' w2 hown2 hB2
                    obtain ⟨a2, c2, hv, o2⟩ := OwnI.oi (xs := [rf]) hown2 (by intro z hz; simp at hz; subst hz; exact Hri.out)
                    simp only [List.length_singleton] at hv o2
                    subst hv
                    have his := o2.is
                    have hB3 := (below_alloc (below_drewN hB) (.cells #[.int .i64 rf] 3)).trans hB2
                    have d0 := cell_keep hB3 e0
                    have d1 := cell_keep hB3 e1
                    go_wp2_with (go_at_call 104; refine (hasInt_spec _ _ _ _ [rf] _ his).mono ?_; rintro e w3 ⟨rfl, rfl⟩)
                    go_ret
                    exact ⟨ret_bool (by rw [Hpost.out, Hf.out]), below_via hB3 Hb.out⟩
                  · have hq2 : hasB [rf] rt = false := by simpa using hh
                    have Hnext : Hid (goR l [] (xs.take (0 + 1)) = some [rf, rt]) := goR_step hgo.out hxs.out (by rw [Hstep.out, hhd]; simp [hq2])
                    clear hhd hh
                    go_wp2
                    go_quiet (fail)
                    have hownd := OwnI.drewN hown nq
                    go_wp2_with (at_builtin; refine wpList_append_int rfl _ _ rfl wq.heap.size _ _ rfl (hownd.alloc _) _ _ rfl (new_cell0 _ _ _) (by simp) (Nat.le_trans hB.size (size_alloc_le _ _)) ?_)
                    intro v' w2 hown2 hB2
                    obtain ⟨a2, c2, hv, o2⟩ := OwnI.oi (xs := [rf]) hown2 (by intro z hz; simp at hz; subst hz; exact Hri.out)
                    simp only [List.length_singleton] at hv o2
                    subst hv
                    have his := o2.is
                    have hB3 := (below_alloc (below_drewN hB) (.cells #[.int .i64 rf] 3)).trans hB2
                    have d0 := cell_keep hB3 e0
                    have d1 := cell_keep hB3 e1
                    clear hown hown2 hownd
                    have hown3 := o2.1
                    go_wp2_with (first | (go_at_call 104; refine (hasInt_spec _ _ _ _ [rf] _ his).mono ?_; rintro e w3 ⟨rfl, rfl⟩) | (at_builtin; refine wpList_append_int rfl _ _ rfl wq.heap.size _ _ rfl (hown3.alloc _) _ _ rfl (new_cell0 _ _ _) (by simp) (Nat.le_trans hB3.size (size_alloc_le _ _)) ?_))
                    intro v3 w3 hown4 hB4
                    go_wp2
                    go_roundw
                    case rel => exact ⟨0 + 1, [rf, rt], by omega, by go_num, Hnext.out, rfl, (by intro z hz; simp at hz; rcases hz with rfl | rfl; exact Hri.out; exact Hti.out), Hprev, hown4, (below_alloc hB3 _).trans hB4⟩
                    case measure => simp [intOf]; omega
                · obtain ⟨m, rfl⟩ : ∃ m, k = m + 1 := ⟨k - 1, by omega⟩
                  have t4 : decide ((0 : Int) < (m : Int) + 1) = true := decide_eq_true (by omega)
                  obtain ⟨y, ry, hy1, hy2, hy3⟩ := hpv.out m rfl
                  obtain ⟨b3, off3, y', e3, hb3, hc3, hbd3, hx3, _⟩ := (hs'.keep hB).at_ (show m < len' by omega)
                  rw [hy1] at hx3
                  obtain rfl : (y : Int) = y' := Option.some.inj hx3.out
                  injection e3 with e3
                  injection e3 with e3a e3b
                  subst e3a; subst e3b
                  have hyl : y < len := by have := (List.getElem?_eq_some_iff.1 hy2).1; have := Hln.out; omega
                  obtain ⟨g4, off4, sf, st, sb, sp, sc, e4, hg4, f0, f1, c2, c3, c4, o0, o1, o2, o3, o4, hr4, _⟩ := RdS.cells hs hyl
                  injection e4 with e4
                  injection e4 with e4a e4b
                  subst e4a; subst e4b
                  have f1' := cell_keep hB f1
                  rw [hy2] at hr4
                  obtain rfl := Option.some.inj hr4.out
                  clear c2 c3 c4 o0 o1 o2 o3 o4 hr4 hx3 f0 hy1 hy2
                  have hpl2 : ps.length = m + 1 + 1 := by have := hpl.out; rw [if_neg (by omega)] at this; exact this
                  have Hpl := Lib.hid hpl2
                  have hne : ps ≠ [] := by intro h; rw [h] at hpl2; simp at hpl2
                  have hhd : headR ps rf = ps := if_neg hne
                  have hy3' : ps.getLast? = some st := hy3
                  rw [hhd, hy3'] at Hstep
                  clear hne hhd hpl hpl2 hy3 hy3' hpv
                  obtain ⟨a2, c2, hv, o2⟩ := OwnI.oi hown hpb.out
                  subst hv
                  by_cases hyr : st = rf
                  · have hq : (st != rf) = false := by simp [hyr]
                    by_cases hh : hasB ps rt = true
                    · have Hf := Lib.hid (routeB_bad hgo.out hx.out (by rw [Hstep.out]; simp [hh]))
                      clear hyr
                      go_wp2
                      go_quiet (fail)
                      have his := IS.drewN o2.is nq
                      go_wp2_with (go_at_call 104; refine (hasInt_spec _ _ _ _ ps _ his).mono ?_; rintro e w3 ⟨rfl, rfl⟩)
                      go_ret
                      exact ⟨ret_bool (by rw [Hpost.out, Hf.out]), below_drewN Hbb.out⟩
                    · have hq2 : hasB ps rt = false := by simpa using hh
                      have Hnext : Hid (goR l [] (xs.take (m + 1 + 1)) = some (ps ++ [rt])) := goR_step hgo.out hxs.out (by rw [Hstep.out]; simp [hq2, hyr])
                      have Hprev : Hid (∀ m', m + 1 + 1 = m' + 1 → ∃ (y : Nat) (ry : Rd), xs[m']? = some (y : Int) ∧ l[y]? = some ry ∧ (ps ++ [rt]).getLast? = some ry.t) := by
                        intro m' hm
                        obtain rfl : m' = m + 1 := by omega
                        exact ⟨i, _, hx.out, hr.out, by simp⟩
                      clear hyr hh
                      go_wp2
                      go_quiet (fail)
                      have his := IS.drewN o2.is nq
                      have hown3 := OwnI.drewN o2.1 nq
                      have hlp : ps.length ≤ 1099511627776 := by have := Hpl.out; omega
                      go_wp2_with (first | (go_at_call 104; refine (hasInt_spec _ _ _ _ ps _ his).mono ?_; rintro e w3 ⟨rfl, rfl⟩) | (at_builtin; refine wpList_append_int rfl _ _ rfl wq.heap.size _ _ rfl (hown3.alloc _) _ _ rfl (new_cell0 _ _ _) hlp (Nat.le_trans hB.size (size_alloc_le _ _)) ?_))
                      intro v3 w3 hown4 hB4
                      go_wp2
                      go_roundw
                      case rel => exact ⟨m + 1 + 1, ps ++ [rt], by omega, by go_num, Hnext.out, (by unfold Hid; rw [if_neg (by omega)]; simp [Hpl.out]), (by intro z hz; simp at hz; rcases hz with hz | rfl; exact hpb.out z hz; exact Hti.out), Hprev, hown4, (below_alloc (below_drewN hB) _).trans hB4⟩
                      case measure => simp [intOf]; omega
                  · have hq : (st != rf) = true := by simp; exact hyr
                    have Hf := Lib.hid (routeB_bad hgo.out hx.out (by rw [Hstep.out]; simp [hyr]))
                    clear hyr
                    go_wp2
                    go_quiet (fail)
                    go_wp2
                    go_ret
                    exact ⟨ret_bool (by rw [Hpost.out, Hf.out]), below_drewN Hbb.out⟩
          · have e : k = len' := by omega
            subst e
            have Hr : Hid (routeB l xs = true) := by
              have h1 := hgo.out
              rw [hs'.all (Nat.le_refl _)] at h1
              unfold Hid
              rw [routeB, h1, Hln'.out]
              simp; omega
            go_wp2
            go_ret
            exact ⟨ret_bool (by rw [Hpost.out, Hr.out]), Hbb.out⟩
  · have Hf : Hid (routeOkS l xs = false) := by unfold Hid; rw [routeOkS, Bool.eq_false_iff.2 hro, Bool.false_and]
    go_enter Tryd.func81, Tryd.ntmps81
    go_wp2_with (((first | (go_at_call 41; refine (roadsOk_spec _ _ _ _ _ (by (first | (with_reducible assumption) | (with_reducible exact OF.fs (fun _ => rfl) (by assumption)) | (refine FS.keep (by with_reducible assumption) ?_; (repeat (first | (with_reducible assumption) | (with_reducible exact Below.refl _ _) | (with_reducible refine Below.setCell ?_ (by first | (simp; done) | (simp [*]; done)) _) | (with_reducible refine below_alloc ?_ _) | (with_reducible refine Below.drew ?_) | (with_reducible refine below_drewN ?_)))) | (refine OF.fs (fun _ => rfl) (OF.keep (by with_reducible assumption) ?_); (repeat (first | (with_reducible assumption) | (with_reducible exact Below.refl _ _) | (with_reducible refine Below.setCell ?_ (by first | (simp; done) | (simp [*]; done)) _) | (with_reducible refine below_alloc ?_ _) | (with_reducible refine Below.drew ?_) | (with_reducible refine below_drewN ?_))))))).mono ?_) | (go_at_call 104; refine (hasInt_spec _ _ _ _ _ _ (by (first | (with_reducible assumption) | (with_reducible exact OI.is (by assumption)) | (refine IS.keep (by with_reducible assumption) ?_; (repeat (first | (with_reducible assumption) | (with_reducible exact Below.refl _ _) | (with_reducible refine Below.setCell ?_ (by first | (simp; done) | (simp [*]; done)) _) | (with_reducible refine below_alloc ?_ _) | (with_reducible refine Below.drew ?_) | (with_reducible refine below_drewN ?_)))) | (refine OI.is (OI.keep (by with_reducible assumption) ?_); (repeat (first | (with_reducible assumption) | (with_reducible exact Below.refl _ _) | (with_reducible refine Below.setCell ?_ (by first | (simp; done) | (simp [*]; done)) _) | (with_reducible refine below_alloc ?_ _) | (with_reducible refine Below.drew ?_) | (with_reducible refine below_drewN ?_))))))).mono ?_)); (first | (rintro e w1 ⟨rfl, rfl⟩) | (rintro e w1 ⟨rfl, hb⟩; (try (replace H0 := below_upd H0 hb (by (repeat (first | (with_reducible assumption) | (with_reducible exact Below.refl _ _) | (with_reducible refine Below.setCell ?_ (by first | (simp; done) | (simp [*]; done)) _) | (with_reducible refine below_alloc ?_ _) | (with_reducible refine Below.drew ?_) | (with_reducible refine below_drewN ?_)))); clear hc0 hf0 hs0 hz0; obtain ⟨hc0, hf0, hs0, hz0⟩ := brules H0)); (try (replace H1 := below_upd H1 hb (by (repeat (first | (with_reducible assumption) | (with_reducible exact Below.refl _ _) | (with_reducible refine Below.setCell ?_ (by first | (simp; done) | (simp [*]; done)) _) | (with_reducible refine below_alloc ?_ _) | (with_reducible refine Below.drew ?_) | (with_reducible refine below_drewN ?_)))); clear hc1 hf1 hs1 hz1; obtain ⟨hc1, hf1, hs1, hz1⟩ := brules H1)); (try (replace H2 := below_upd H2 hb (by (repeat (first | (with_reducible assumption) | (with_reducible exact Below.refl _ _) | (with_reducible refine Below.setCell ?_ (by first | (simp; done) | (simp [*]; done)) _) | (with_reducible refine below_alloc ?_ _) | (with_reducible refine Below.drew ?_) | (with_reducible refine below_drewN ?_)))); clear hc2 hf2 hs2 hz2; obtain ⟨hc2, hf2, hs2, hz2⟩ := brules H2)); (try replace S0 := S0.keep (below_via hb (by (repeat (first | (with_reducible assumption) | (with_reducible exact Below.refl _ _) | (with_reducible refine Below.setCell ?_ (by first | (simp; done) | (simp [*]; done)) _) | (with_reducible refine below_alloc ?_ _) | (with_reducible refine Below.drew ?_) | (with_reducible refine below_drewN ?_)))))); (try replace S1 := S1.keep (below_via hb (by (repeat (first | (with_reducible assumption) | (with_reducible exact Below.refl _ _) | (with_reducible refine Below.setCell ?_ (by first | (simp; done) | (simp [*]; done)) _) | (with_reducible refine below_alloc ?_ _) | (with_reducible refine Below.drew ?_) | (with_reducible refine below_drewN ?_)))))); (try replace S2 := S2.keep (below_via hb (by (repeat (first | (with_reducible assumption) | (with_reducible exact Below.refl _ _) | (with_reducible refine Below.setCell ?_ (by first | (simp; done) | (simp [*]; done)) _) | (with_reducible refine below_alloc ?_ _) | (with_reducible refine Below.drew ?_) | (with_reducible refine below_drewN ?_)))))); (try replace S3 := S3.keep (below_via hb (by (repeat (first | (with_reducible assumption) | (with_reducible exact Below.refl _ _) | (with_reducible refine Below.setCell ?_ (by first | (simp; done) | (simp [*]; done)) _) | (with_reducible refine below_alloc ?_ _) | (with_reducible refine Below.drew ?_) | (with_reducible refine below_drewN ?_)))))); (first | ((fail_if_success (have ht := H0)); have H0 := hb; obtain ⟨hc0, hf0, hs0, hz0⟩ := brules H0) | ((fail_if_success (have ht := H1)); have H1 := hb; obtain ⟨hc1, hf1, hs1, hz1⟩ := brules H1) | ((fail_if_success (have ht := H2)); have H2 := hb; obtain ⟨hc2, hf2, hs2, hz2⟩ := brules H2) | skip)))))
    go_ret
    exact ⟨ret_bool (by rw [Hf.out]), by (repeat (first | (with_reducible exact Below.refl _ _) | (with_reducible assumption) | (with_reducible refine Below.setCell ?_ ?side _; case side => first | (with_reducible exact Nat.le_refl _) | (simp; done) | (simp only [World.size_alloc, World.size_setCell, World.size_drew, World.heap_drewN] at *; omega)) | (with_reducible refine below_alloc ?_ _) | (with_reducible refine Below.drew ?_) | (with_reducible refine below_drewN ?_) | (with_reducible refine below_via (by assumption) ?_)))⟩

end Go.Proofs.YtegnlijgjcfmlaaDoor
