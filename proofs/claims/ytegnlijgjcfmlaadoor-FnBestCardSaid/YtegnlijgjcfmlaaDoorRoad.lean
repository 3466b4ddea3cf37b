/- Roads: the tests. -/
import Derived.Test.YtegnlijgjcfmlaaDoorAmt
import Derived.Test.YtegnlijgjcfmlaaDoorSRoad
namespace Go.Proofs.YtegnlijgjcfmlaaDoor
open Go.RowKit
set_option linter.unusedVariables false
set_option linter.unusedSimpArgs false

def roadOk (f t b p c : Int) : Bool := chanOk f && chanOk t && decide (f ≠ t) && amtOk b && inB p 0 1000000 && amtOk c
theorem roadOk_iff (f t b p c : Int) : roadOk f t b p c = decide ((1 ≤ f ∧ f ≤ 99) ∧ (1 ≤ t ∧ t ≤ 99) ∧ f ≠ t ∧ (0 ≤ b ∧ b ≤ 1125899906842624) ∧ (0 ≤ p ∧ p ≤ 1000000) ∧ 0 ≤ c ∧ c ≤ 1125899906842624) := by
  simp [roadOk, amtOk, chanOk, inB, Bool.and_assoc]
def Rd.good (r : Rd) : Bool := roadOk r.f r.t r.b r.p r.c
/-- the first k roads are good, and no two of them have the same ends -/
def RoadsTo (l : List Rd) (k : Nat) : Prop := ∀ (j : Nat) (r : Rd), j < k → l[j]? = some r → r.good = true ∧ ∀ (i : Nat) (q : Rd), i < j → l[i]? = some q → ¬ (q.f = r.f ∧ q.t = r.t)
noncomputable def roadsOk (l : List Rd) : Bool := @decide (l.length ≤ 40 ∧ RoadsTo l l.length) (Classical.propDecidable _)
theorem roadsOk_t {l : List Rd} (h : l.length ≤ 40) (h2 : RoadsTo l l.length) : roadsOk l = true := by
  unfold roadsOk; exact @decide_eq_true _ (Classical.propDecidable _) ⟨h, h2⟩
theorem roadsOk_out {l : List Rd} (h : roadsOk l = true) : l.length ≤ 40 ∧ RoadsTo l l.length := by
  unfold roadsOk at h; exact @of_decide_eq_true _ (Classical.propDecidable _) h
theorem roadsOk_f {l : List Rd} (h : ¬ (l.length ≤ 40 ∧ RoadsTo l l.length)) : roadsOk l = false := by
  unfold roadsOk; exact @decide_eq_false _ (Classical.propDecidable _) h
theorem roadsOk_bad {l : List Rd} {k : Nat} {r : Rd} (h : l[k]? = some r) (hr : r.good = false) : roadsOk l = false :=
  roadsOk_f fun ⟨_, g⟩ => by have := (g k r (List.getElem?_eq_some_iff.1 h).1 h).1; simp_all
theorem roadsOk_twice {l : List Rd} {k i : Nat} {r q : Rd} (h : l[k]? = some r) (hi : l[i]? = some q) (hik : i < k) (hr : q.f = r.f ∧ q.t = r.t) : roadsOk l = false :=
  roadsOk_f fun ⟨_, g⟩ => (g k r (List.getElem?_eq_some_iff.1 h).1 h).2 i q hik hi hr
theorem RoadsTo_step {l : List Rd} {k : Nat} {r : Rd} (h : RoadsTo l k) (hr : l[k]? = some r) (hg : r.good = true) (hn : ∀ (i : Nat) (q : Rd), i < k → l[i]? = some q → ¬ (q.f = r.f ∧ q.t = r.t)) : RoadsTo l (k + 1) := by
  intro j r' hj hr'
  rcases Nat.lt_or_ge j k with hlt | hge
  · exact h j r' hlt hr'
  · obtain rfl : j = k := by omega
    rw [hr] at hr'
    obtain rfl := Option.some.inj hr'
    exact ⟨hg, hn⟩

set_option maxHeartbeats 800000 in
theorem roadOk_impl (f t b p c : Int) (w : World) : Calls Tryd.prog 78 #[.agg #[.int .i64 f, .int .i64 t, .int .i64 b, .int .i64 p, .int .i64 c]] w fun e w' => e = .returned (.bool (roadOk f t b p c)) ∧ Below w.heap.size w w' := by
  go_enter Tryd.func78, Tryd.ntmps78
  go_wp2_with (((first | (go_at_call 90; refine (isChan_impl _ _).mono ?_) | (go_at_call 61; refine (amtOk_impl _ _).mono ?_) | (go_at_call 39; refine (in_impl _ _ _ _).mono ?_)); rintro e w1 ⟨rfl, rfl⟩))
  all_goals
    go_ret
    exact ⟨ret_bool (by (try simp only [roadOk_iff, amtOk_iff, timeOk_iff, chanOk_iff, keyOk_iff, inB, decide_eq_true_eq, bne_iff_ne, ne_eq] at *); first | exact tt (by omega) | exact ff (by omega) | exact dd (by omega) | (rw [Bool.eq_iff_iff]; simp only [Bool.and_eq_true, Bool.or_eq_true, decide_eq_true_eq, bne_iff_ne, ne_eq, beq_iff_eq]; omega)), by (repeat (first | (with_reducible exact Below.refl _ _) | (with_reducible assumption) | (with_reducible refine Below.setCell ?_ ?side _; case side => first | (with_reducible exact Nat.le_refl _) | (simp; done) | (simp only [World.size_alloc, World.size_setCell, World.size_drew, World.heap_drewN] at *; omega)) | (with_reducible refine below_alloc ?_ _) | (with_reducible refine Below.drew ?_) | (with_reducible refine below_drewN ?_) | (with_reducible refine below_via (by assumption) ?_)))⟩

set_option maxHeartbeats 1600000 in
theorem roadsOk_spec (a : Option Addr) (len cap : Nat) (xs : List Rd) (w : World) (hs : RdS w w.heap.size a len xs) : Calls Tryd.prog 41 #[.slice a len cap] w fun e w' => e = .returned (.bool (roadsOk xs)) ∧ Below w.heap.size w w' := by
  have hl := hs.lenB
  go_enter Tryd.func41, Tryd.ntmps41
  go_wp2
  go_loopw [3, 4, 5, 8] (fun _ _ _ i wr => ∃ k : Nat, k ≤ len ∧ i = .int .i64 k ∧ Hid (RoadsTo xs k) ∧ Below w.heap.size w wr) (fun _ _ _ i _ => len - (intOf i).toNat)
  case atStart => exact ⟨0, Nat.zero_le _, rfl, fun j r h => by omega, Below.refl _ _⟩
  case round =>
    obtain ⟨k, hk, rfl, ht, hB⟩ := hrel
    by_cases hlt : k < len
    · obtain ⟨b, off, r, rfl, hb, hc, hbd, hx, hxs⟩ := FS.at_ (FS.keep hs hB) hlt
      obtain ⟨rf, rt, rb, rp, rc⟩ := r
      have c0 := hc 0 _ rfl
      have c1 := hc 1 _ rfl
      have c2 := hc 2 _ rfl
      have c3 := hc 3 _ rfl
      have c4 := hc 4 _ rfl
      clear hc
      dsimp only at c0 c1 c2 c3 c4
      simp only [Nat.add_zero] at c0
      by_cases hg : roadOk rf rt rb rp rc = true
      · have hg2 := hg
        rw [roadOk_iff] at hg2
        have hg3 := of_decide_eq_true hg2
        clear hg2
        have g1 : chanOk rf = true := decide_eq_true (by omega)
        have g2 : chanOk rt = true := decide_eq_true (by omega)
        have g3 : (rf == rt) = false := by simp; omega
        have g4 : amtOk rb = true := decide_eq_true (by omega)
        have g5 : amtOk rc = true := decide_eq_true (by omega)
        have g6 : 0 ≤ rp := by omega
        have g7 : rp ≤ 1000000 := by omega
        have Hg := Lib.hid hg
        clear hg hg3
        obtain ⟨wo, rfl⟩ : ∃ wo : World, wo = wr := ⟨_, rfl⟩
        go_wp2_with (((first | (go_at_call 56; refine (isChan_spec _ _).mono ?_) | (go_at_call 57; refine (amtOk_spec _ _).mono ?_)); rintro e w1 ⟨rfl, rfl⟩))
        go_loopw [5] (fun i wi => ∃ j : Nat, j ≤ k ∧ i = .int .i64 j ∧ Hid (∀ (i : Nat) (q : Rd), i < j → xs[i]? = some q → ¬ (q.f = rf ∧ q.t = rt)) ∧ Below (wo.heap.size + 1) (wo.alloc (.cells #[.int .i64 rf, .int .i64 rt, .int .i64 rb, .int .i64 rp, .int .i64 rc] 32)) wi) (fun i _ => k - (intOf i).toNat)
        case atStart => exact ⟨0, Nat.zero_le _, rfl, fun i q h => by omega, Below.refl _ _⟩
        case round =>
          obtain ⟨j, hj, rfl, hn, hB2⟩ := hrel
          have hBW : Below (wo.alloc (.cells #[.int .i64 rf, .int .i64 rt, .int .i64 rb, .int .i64 rp, .int .i64 rc] 32)).heap.size (wo.alloc (.cells #[.int .i64 rf, .int .i64 rt, .int .i64 rb, .int .i64 rp, .int .i64 rc] 32)) wr := by simpa using hB2
          have hB3 : Below w.heap.size w wr := below_via hBW (below_alloc hB _)
          by_cases hlt2 : j < k
          · obtain ⟨b', off', r', e', hb', hc', hbd', hx', hxs'⟩ := FS.at_ (FS.keep hs hB3) (show j < len by omega)
            injection e' with e'
            injection e' with e1 e2
            subst e1; subst e2
            obtain ⟨qf, qt, qb, qp, qc⟩ := r'
            have d0 := hc' 0 _ rfl
            have d1 := hc' 1 _ rfl
            clear hc'
            dsimp only at d0 d1
            simp only [Nat.add_zero] at d0
            obtain ⟨hc0, hf0, hs0, hz0⟩ := brules hBW
            by_cases q1 : qf = rf
            · by_cases q2 : qt = rt
              · have q3 : (qf == rf) = true := by simp [q1]
                have q4 : (qt == rt) = true := by simp [q2]
                have Hf := Lib.hid (roadsOk_twice hx.out hx'.out hlt2 ⟨q1, q2⟩)
                clear q1 q2
                go_wp2
                go_quiet (fail)
                go_wp2
                go_ret
                exact ⟨ret_bool (by rw [Hf.out]), below_drewN hB3⟩
              · have q3 : (qf == rf) = true := by simp [q1]
                have q4 : (qt == rt) = false := by simp [q2]
                have Hq := Lib.hid q2
                clear q1 q2
                go_wp2
                go_quiet (fail)
                go_wp2
                go_roundw
                case rel =>
                  refine ⟨j + 1, by omega, by go_num, ?_, below_drewN hB2⟩
                  intro i q hi hq hqq
                  rcases Nat.lt_or_ge i j with h1 | h1
                  · exact hn.out i q h1 hq hqq
                  · obtain rfl : i = j := by omega
                    rw [hx'.out] at hq
                    obtain rfl := Option.some.inj hq
                    exact Hq.out hqq.2
                case measure => simp [intOf]; omega
            · have q3 : (qf == rf) = false := by simp [q1]
              have Hq := Lib.hid q1
              clear q1
              go_wp2
              go_quiet (fail)
              go_wp2
              go_roundw
              case rel =>
                refine ⟨j + 1, by omega, by go_num, ?_, below_drewN hB2⟩
                intro i q hi hq hqq
                rcases Nat.lt_or_ge i j with h1 | h1
                · exact hn.out i q h1 hq hqq
                · obtain rfl : i = j := by omega
                  rw [hx'.out] at hq
                  obtain rfl := Option.some.inj hq
                  exact Hq.out hqq.1
              case measure => simp [intOf]; omega
          · obtain rfl : j = k := by omega
            go_wp2
            go_roundw
            case rel => exact ⟨j + 1, by omega, by go_num, RoadsTo_step ht.out hx.out Hg.out (fun i q hi hq => hn.out i q hi hq), hB3⟩
            case measure => simp [intOf]; omega
      · have Hf := Lib.hid (roadsOk_bad hx.out (show Rd.good ⟨rf, rt, rb, rp, rc⟩ = false by simpa [Rd.good] using hg))
        go_wp2_with (((first | (go_at_call 56; refine (isChan_spec _ _).mono ?_) | (go_at_call 57; refine (amtOk_spec _ _).mono ?_)); rintro e w1 ⟨rfl, rfl⟩))
        all_goals first
          | (go_ret; exact ⟨ret_bool (by rw [Hf.out]), below_alloc hB _⟩)
          | (exfalso; simp_all [roadOk, inB])
    · have e : k = len := by omega
      subst e
      have hln := hs.1
      have Hln := Lib.hid hln; clear hln
      by_cases h40 : k ≤ 40
      · have Hr := Lib.hid (roadsOk_t (l := xs) (by have := Hln.out; omega) (by rw [Hln.out]; exact ht.out))
        go_wp2
        go_ret
        exact ⟨ret_bool (by rw [Hr.out]; first | rfl | (symm; exact tt (by omega))), hB⟩
      · have Hr := Lib.hid (roadsOk_f (l := xs) (by have := Hln.out; rintro ⟨h, _⟩; omega))
        go_wp2
        go_ret
        exact ⟨ret_bool (by rw [Hr.out]; first | rfl | (symm; exact ff (by omega))), hB⟩

set_option maxHeartbeats 3200000 in
theorem roadsOk_impl (a : Option Addr) (len cap : Nat) (xs : List Rd) (w : World) (hs : RdS w w.heap.size a len xs) (hcap : len ≤ cap) : Calls Tryd.prog 38 #[.slice a len cap] w fun e w' => e = .returned (.bool (roadsOk xs)) ∧ Below w.heap.size w w' := by
  have hl := hs.lenB
  have hln := hs.1
  have Hln := Lib.hid hln; clear hln
  by_cases h40 : len ≤ 40
  · go_enter Tryd.func38, Tryd.ntmps38
    go_wp2
    go_loopw [3, 4, 6, 12] (fun _ _ _ i wr => ∃ k : Nat, k ≤ len ∧ i = .int .i64 k ∧ Hid (RoadsTo xs k) ∧ Below w.heap.size w wr) (fun _ _ _ i _ => len - (intOf i).toNat)
    case atStart => exact ⟨0, Nat.zero_le _, rfl, fun j r h => by omega, Below.refl _ _⟩
    case round =>
      obtain ⟨k, hk, rfl, ht, hB⟩ := hrel
      by_cases hlt : k < len
      · obtain ⟨b, off, rf, rt, rb, rp, rc, rfl, hb, c0, c1, c2, c3, c4, o0, o1, o2, o3, o4, hx, hxs⟩ := RdS.cells (FS.keep hs hB) hlt
        clear o0 o1 o2 o3 o4
        obtain ⟨wo, rfl⟩ : ∃ wo : World, wo = wr := ⟨_, rfl⟩
        by_cases hg : roadOk rf rt rb rp rc = true
        · have Hg := Lib.hid hg
          go_wp2_with (((go_at_call 78; refine (roadOk_impl _ _ _ _ _ _).mono ?_); (rintro e w1 ⟨rfl, hb⟩; (try (replace H0 := below_upd H0 hb (by (repeat (first | (with_reducible assumption) | (with_reducible exact Below.refl _ _) | (with_reducible refine Below.setCell ?_ (by first | (simp; done) | (simp [*]; done)) _) | (with_reducible refine below_alloc ?_ _) | (with_reducible refine Below.drew ?_) | (with_reducible refine below_drewN ?_)))); clear hc0 hf0 hs0 hz0; obtain ⟨hc0, hf0, hs0, hz0⟩ := brules H0)); (try (replace H1 := below_upd H1 hb (by (repeat (first | (with_reducible assumption) | (with_reducible exact Below.refl _ _) | (with_reducible refine Below.setCell ?_ (by first | (simp; done) | (simp [*]; done)) _) | (with_reducible refine below_alloc ?_ _) | (with_reducible refine Below.drew ?_) | (with_reducible refine below_drewN ?_)))); clear hc1 hf1 hs1 hz1; obtain ⟨hc1, hf1, hs1, hz1⟩ := brules H1)); (try (replace H2 := below_upd H2 hb (by (repeat (first | (with_reducible assumption) | (with_reducible exact Below.refl _ _) | (with_reducible refine Below.setCell ?_ (by first | (simp; done) | (simp [*]; done)) _) | (with_reducible refine below_alloc ?_ _) | (with_reducible refine Below.drew ?_) | (with_reducible refine below_drewN ?_)))); clear hc2 hf2 hs2 hz2; obtain ⟨hc2, hf2, hs2, hz2⟩ := brules H2)); (try replace S0 := S0.keep (below_via hb (by (repeat (first | (with_reducible assumption) | (with_reducible exact Below.refl _ _) | (with_reducible refine Below.setCell ?_ (by first | (simp; done) | (simp [*]; done)) _) | (with_reducible refine below_alloc ?_ _) | (with_reducible refine Below.drew ?_) | (with_reducible refine below_drewN ?_)))))); (try replace S1 := S1.keep (below_via hb (by (repeat (first | (with_reducible assumption) | (with_reducible exact Below.refl _ _) | (with_reducible refine Below.setCell ?_ (by first | (simp; done) | (simp [*]; done)) _) | (with_reducible refine below_alloc ?_ _) | (with_reducible refine Below.drew ?_) | (with_reducible refine below_drewN ?_)))))); (try replace S2 := S2.keep (below_via hb (by (repeat (first | (with_reducible assumption) | (with_reducible exact Below.refl _ _) | (with_reducible refine Below.setCell ?_ (by first | (simp; done) | (simp [*]; done)) _) | (with_reducible refine below_alloc ?_ _) | (with_reducible refine Below.drew ?_) | (with_reducible refine below_drewN ?_)))))); (try replace S3 := S3.keep (below_via hb (by (repeat (first | (with_reducible assumption) | (with_reducible exact Below.refl _ _) | (with_reducible refine Below.setCell ?_ (by first | (simp; done) | (simp [*]; done)) _) | (with_reducible refine below_alloc ?_ _) | (with_reducible refine Below.drew ?_) | (with_reducible refine below_drewN ?_)))))); (first | ((fail_if_success (have ht := H0)); have H0 := hb; obtain ⟨hc0, hf0, hs0, hz0⟩ := brules H0) | ((fail_if_success (have ht := H1)); have H1 := hb; obtain ⟨hc1, hf1, hs1, hz1⟩ := brules H1) | ((fail_if_success (have ht := H2)); have H2 := hb; obtain ⟨hc2, hf2, hs2, hz2⟩ := brules H2) | skip))))
          have hB1 : Below w.heap.size w w1 := by (repeat (first | (with_reducible exact Below.refl _ _) | (with_reducible assumption) | (with_reducible refine Below.setCell ?_ ?side _; case side => first | (with_reducible exact Nat.le_refl _) | (simp; done) | (simp only [World.size_alloc, World.size_setCell, World.size_drew, World.heap_drewN] at *; omega)) | (with_reducible refine below_alloc ?_ _) | (with_reducible refine Below.drew ?_) | (with_reducible refine below_drewN ?_) | (with_reducible refine below_via (by assumption) ?_)))
          clear hg
          go_loopw [6, 24] (fun _ i wi => ∃ j : Nat, j ≤ k ∧ i = .int .i64 j ∧ Hid (∀ (i : Nat) (q : Rd), i < j → xs[i]? = some q → ¬ (q.f = rf ∧ q.t = rt)) ∧ Below w1.heap.size w1 wi) (fun _ i _ => k - (intOf i).toNat)
          case atStart => exact ⟨0, Nat.zero_le _, rfl, fun i q h => by omega, Below.refl _ _⟩
          case round =>
            obtain ⟨j, hj, rfl, hn, hB2⟩ := hrel
            have hB3 : Below w.heap.size w wr := below_via hB2 hB1
            by_cases hlt2 : j < k
            · obtain ⟨b', off', qf, qt, qb, qp, qc, e', hb', d0, d1, d2, d3, d4, o0, o1, o2, o3, o4, hx', hxs'⟩ := RdS.cells (FS.keep hs hB3) (show j < len by omega)
              clear o0 o1 o2 o3 o4
              simp only [Option.some.injEq, Addr.mk.injEq, and_true] at e'
              obtain ⟨e1, e2⟩ := e'
              subst e1; subst e2
              have hBW := below_via hB2 H0
              clear hc0 hf0 hs0 hz0
              obtain ⟨hc0, hf0, hs0, hz0⟩ := brules hBW
              by_cases q1 : qf = rf
              · by_cases q2 : qt = rt
                · have q3 : (qf == rf) = true := by simp [q1]
                  have q4 : (qt == rt) = true := by simp [q2]
                  have Hf := Lib.hid (roadsOk_twice hx.out hx'.out hlt2 ⟨q1, q2⟩)
                  clear q1 q2
                  go_wp2
                  go_ret
                  exact ⟨ret_bool (by rw [Hf.out]), below_alloc hB3 _⟩
                · have q3 : (qf == rf) = true := by simp [q1]
                  have q4 : (qt == rt) = false := by simp [q2]
                  have Hq := Lib.hid q2
                  clear q1 q2
                  go_wp2
                  go_roundw
                  case rel =>
                    refine ⟨j + 1, by omega, by go_num, ?_, below_alloc hB2 _⟩
                    intro i q hi hq hqq
                    rcases Nat.lt_or_ge i j with h1 | h1
                    · exact hn.out i q h1 hq hqq
                    · obtain rfl : i = j := by omega
                      rw [hx'.out] at hq
                      obtain rfl := Option.some.inj hq
                      exact Hq.out hqq.2
                  case measure => simp [intOf]; omega
              · have q3 : (qf == rf) = false := by simp [q1]
                have Hq := Lib.hid q1
                clear q1
                go_wp2
                go_roundw
                case rel =>
                  refine ⟨j + 1, by omega, by go_num, ?_, below_alloc hB2 _⟩
                  intro i q hi hq hqq
                  rcases Nat.lt_or_ge i j with h1 | h1
                  · exact hn.out i q h1 hq hqq
                  · obtain rfl : i = j := by omega
                    rw [hx'.out] at hq
                    obtain rfl := Option.some.inj hq
                    exact Hq.out hqq.1
                case measure => simp [intOf]; omega
            · obtain rfl : j = k := by omega
              go_wp2
              go_roundw
              case rel => exact ⟨j + 1, by omega, by go_num, RoadsTo_step ht.out hx.out Hg.out (fun i q hi hq => hn.out i q hi hq), hB3⟩
              case measure => simp [intOf]; omega
        · have Hf := Lib.hid (roadsOk_bad hx.out (show Rd.good ⟨rf, rt, rb, rp, rc⟩ = false by simpa [Rd.good] using hg))
          go_wp2_with (((go_at_call 78; refine (roadOk_impl _ _ _ _ _ _).mono ?_); (rintro e w1 ⟨rfl, hb⟩; (try (replace H0 := below_upd H0 hb (by (repeat (first | (with_reducible assumption) | (with_reducible exact Below.refl _ _) | (with_reducible refine Below.setCell ?_ (by first | (simp; done) | (simp [*]; done)) _) | (with_reducible refine below_alloc ?_ _) | (with_reducible refine Below.drew ?_) | (with_reducible refine below_drewN ?_)))); clear hc0 hf0 hs0 hz0; obtain ⟨hc0, hf0, hs0, hz0⟩ := brules H0)); (try (replace H1 := below_upd H1 hb (by (repeat (first | (with_reducible assumption) | (with_reducible exact Below.refl _ _) | (with_reducible refine Below.setCell ?_ (by first | (simp; done) | (simp [*]; done)) _) | (with_reducible refine below_alloc ?_ _) | (with_reducible refine Below.drew ?_) | (with_reducible refine below_drewN ?_)))); clear hc1 hf1 hs1 hz1; obtain ⟨hc1, hf1, hs1, hz1⟩ := brules H1)); (try (replace H2 := below_upd H2 hb (by (repeat (first | (with_reducible assumption) | (with_reducible exact Below.refl _ _) | (with_reducible refine Below.setCell ?_ (by first | (simp; done) | (simp [*]; done)) _) | (with_reducible refine below_alloc ?_ _) | (with_reducible refine Below.drew ?_) | (with_reducible refine below_drewN ?_)))); clear hc2 hf2 hs2 hz2; obtain ⟨hc2, hf2, hs2, hz2⟩ := brules H2)); (try replace S0 := S0.keep (below_via hb (by (repeat (first | (with_reducible assumption) | (with_reducible exact Below.refl _ _) | (with_reducible refine Below.setCell ?_ (by first | (simp; done) | (simp [*]; done)) _) | (with_reducible refine below_alloc ?_ _) | (with_reducible refine Below.drew ?_) | (with_reducible refine below_drewN ?_)))))); (try replace S1 := S1.keep (below_via hb (by (repeat (first | (with_reducible assumption) | (with_reducible exact Below.refl _ _) | (with_reducible refine Below.setCell ?_ (by first | (simp; done) | (simp [*]; done)) _) | (with_reducible refine below_alloc ?_ _) | (with_reducible refine Below.drew ?_) | (with_reducible refine below_drewN ?_)))))); (try replace S2 := S2.keep (below_via hb (by (repeat (first | (with_reducible assumption) | (with_reducible exact Below.refl _ _) | (with_reducible refine Below.setCell ?_ (by first | (simp; done) | (simp [*]; done)) _) | (with_reducible refine below_alloc ?_ _) | (with_reducible refine Below.drew ?_) | (with_reducible refine below_drewN ?_)))))); (try replace S3 := S3.keep (below_via hb (by (repeat (first | (with_reducible assumption) | (with_reducible exact Below.refl _ _) | (with_reducible refine Below.setCell ?_ (by first | (simp; done) | (simp [*]; done)) _) | (with_reducible refine below_alloc ?_ _) | (with_reducible refine Below.drew ?_) | (with_reducible refine below_drewN ?_)))))); (first | ((fail_if_success (have ht := H0)); have H0 := hb; obtain ⟨hc0, hf0, hs0, hz0⟩ := brules H0) | ((fail_if_success (have ht := H1)); have H1 := hb; obtain ⟨hc1, hf1, hs1, hz1⟩ := brules H1) | ((fail_if_success (have ht := H2)); have H2 := hb; obtain ⟨hc2, hf2, hs2, hz2⟩ := brules H2) | skip))))
          go_ret
          exact ⟨ret_bool (by rw [Hf.out]), by (repeat (first | (with_reducible exact Below.refl _ _) | (with_reducible assumption) | (with_reducible refine Below.setCell ?_ ?side _; case side => first | (with_reducible exact Nat.le_refl _) | (simp; done) | (simp only [World.size_alloc, World.size_setCell, World.size_drew, World.heap_drewN] at *; omega)) | (with_reducible refine below_alloc ?_ _) | (with_reducible refine Below.drew ?_) | (with_reducible refine below_drewN ?_) | (with_reducible refine below_via (by assumption) ?_)))⟩
      · have e : k = len := by omega
        subst e
        have Hr := Lib.hid (roadsOk_t (l := xs) (by have := Hln.out; omega) (by rw [Hln.out]; exact ht.out))
        go_wp2
        go_ret
        exact ⟨ret_bool (by rw [Hr.out]), hB⟩
  · have Hr := Lib.hid (roadsOk_f (l := xs) (by have := Hln.out; rintro ⟨h, _⟩; omega))
    go_enter Tryd.func38, Tryd.ntmps38
    go_wp2
    go_ret
    exact ⟨ret_bool (by rw [Hr.out]), Below.refl _ _⟩

theorem roadsOk_one (f t b p c : Int) : roadsOk [⟨f, t, b, p, c⟩] = roadOk f t b p c := by
  by_cases h : roadOk f t b p c = true
  · rw [h]
    refine roadsOk_t (by simp) ?_
    intro j r hj hr
    simp at hj
    subst hj
    simp at hr
    subst hr
    exact ⟨h, fun i q hi => by omega⟩
  · rw [Bool.eq_false_iff.2 h]
    exact roadsOk_bad (k := 0) rfl (by simpa [Rd.good] using h)

end Go.Proofs.YtegnlijgjcfmlaaDoor
