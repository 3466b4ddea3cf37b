/- The amount sent over a route arrives, every road takes its fee: the law walked. -/
import Derived.Test.YtegnlijgjcfmlaaDrawR3
import Derived.Test.YtegnlijgjcfmlaaOpenB
import Derived.Deep.RegionWith
namespace Go.Proofs.Ytegnlijgjcfmlaa
open Go.RowKit
set_option linter.unusedVariables false
set_option linter.unusedSimpArgs false

theorem amtsR_law : ∀ (rs : List Rd) (n : Int) (acc L : List Int), rs ≠ [] → amtsR rs n acc = some L → ∃ pre, L = pre ++ acc ∧ pre.length = rs.length ∧ pre.getLast? = some n ∧
    ∀ (k : Nat) (x : Int) (r : Rd), pre[k]? = some x → rs.reverse[k]? = some r → x ≤ r.c ∧ ∀ (j : Nat) (y : Int), k = j + 1 → pre[j]? = some y → y = x + feeV r.b r.p x true
  | [], _, _, _, h, _ => absurd rfl h
  | r :: rest, n, acc, L, _, h => by
    by_cases hc : r.c < n
    · rw [amtsR_over hc] at h; cases h
    · rw [amtsR_cons hc] at h
      cases rest with
      | nil =>
        rw [amtsN_nil] at h
        obtain rfl := Option.some.inj h
        refine ⟨[n], rfl, rfl, rfl, fun k x r' hx hr => ?_⟩
        have hk : k = 0 := by have := (List.getElem?_eq_some_iff.1 hx).1; simp at this; omega
        subst hk
        simp at hx hr
        subst hx
        subst hr
        exact ⟨by omega, fun j y hj => by omega⟩
      | cons q t =>
        cases hb : chgB r n with
        | false => rw [amtsN_f hb] at h; cases h
        | true =>
          rw [amtsN_t hb] at h
          obtain ⟨pre, e1, e2, e3, e4⟩ := amtsR_law (q :: t) _ _ _ (by simp) h
          refine ⟨pre ++ [n], by rw [e1]; simp, by simp [e2], by simp, fun k x r' hx hr => ?_⟩
          rw [List.reverse_cons] at hr
          have hlr : (q :: t).reverse.length = pre.length := by rw [List.length_reverse, e2]
          rcases Nat.lt_or_ge k pre.length with hlt | hge
          · rw [List.getElem?_append_left hlt] at hx
            rw [List.getElem?_append_left (by omega)] at hr
            obtain ⟨f1, f2⟩ := e4 k x r' hx hr
            exact ⟨f1, fun j y hj hy => f2 j y hj (by rw [List.getElem?_append_left (by omega)] at hy; exact hy)⟩
          · have hk : k = pre.length := by have := (List.getElem?_eq_some_iff.1 hx).1; simp at this; omega
            subst hk
            rw [List.getElem?_append_right (Nat.le_refl _), Nat.sub_self] at hx
            rw [← hlr, List.getElem?_append_right (Nat.le_refl _), Nat.sub_self] at hr
            simp at hx hr
            subst hx
            subst hr
            refine ⟨by omega, fun j y hj hy => ?_⟩
            rw [List.getElem?_append_left (by omega)] at hy
            rw [List.getLast?_eq_getElem?, show pre.length - 1 = j by omega, hy] at e3
            exact Option.some.inj e3
theorem routeAmts_law {l : List Rd} {xs : List Int} {n : Int} {L : List Int} (h : routeAmts l xs n = some L) : L.length = xs.length ∧ L[L.length - 1]? = some n ∧
    ∀ (k : Nat) (x y : Int) (z : Nat) (r : Rd), L[k]? = some y → L[k + 1]? = some x → xs[k + 1]? = some (z : Int) → l[z]? = some r → y = x + feeV r.b r.p x true ∧ x ≤ r.c := by
  have ho := routeAmts_out h
  unfold routeAmts at h
  split at h
  · have hne : (rdsOf l xs).reverse ≠ [] := by
      intro h0
      have := congrArg List.length h0
      rw [List.length_reverse, rdsOf_len] at this
      simp at this
      have h1 := ho.2.2.1
      rw [this] at h1
      simp at h1
    obtain ⟨pre, e1, e2, e3, e4⟩ := amtsR_law _ _ _ _ hne h
    rw [List.append_nil] at e1
    subst e1
    rw [List.reverse_reverse] at e4
    refine ⟨ho.1, by rw [← List.getLast?_eq_getElem?]; exact e3, fun k x y z r hy hx hz hr => ?_⟩
    obtain ⟨f1, f2⟩ := e4 (k + 1) x r hx (rdsOf_get hz hr)
    exact ⟨f2 k y rfl hy, f1⟩
  · cases h
theorem rOkS_in {l : List Rd} {xs : List Int} {n : Int} (h : rOkS l xs n = true) : roadsOk l = true ∧ routeB l xs = true ∧ routeOkS l xs = true ∧ ∃ L, routeAmts l xs n = some L ∧ rAmtsS l xs n = L := by
  unfold rOkS at h
  simp only [Bool.and_eq_true] at h
  obtain ⟨h1, h2⟩ := h
  cases hr : routeAmts l xs n with
  | none => rw [(r_none hr).2] at h2; cases h2
  | some L =>
    have hb : routeB l xs = true := by
      unfold routeAmts at hr
      split at hr
      · rename_i h4; exact h4.1
      · cases hr
    exact ⟨h1, hb, by unfold routeOkS; rw [h1, hb]; rfl, L, rfl, by rw [rAmtsS_t h1]; exact (r_some hr).1⟩
theorem rOkS_none {l : List Rd} {xs : List Int} {n : Int} (h : rOkS l xs n = false) : rAmtsS l xs n = [] := by
  cases hr : roadsOk l with
  | false => exact rAmtsS_f hr
  | true =>
    rw [rAmtsS_t hr]
    rw [rOkS_t hr] at h
    cases h2 : routeAmts l xs n with
    | none => exact (r_none h2).1
    | some L => rw [(r_some h2).2] at h; cases h

set_option maxRecDepth 100000 in
set_option maxHeartbeats 6400000 in
theorem walk_FnRoute (a : Option Addr) (len cap : Nat) (xs : List Int) (w : World) (S0 : Bs w w.heap.size a len xs) : Calls Try.prog 6 #[.slice a len cap] w fun e w' => e = .returned (.bool true) ∧ Below w.heap.size w w' := by
  have hl := S0.lenB
  by_cases hlen : len ≤ 1048576
  · go_enter Try.func6, Try.ntmps6
    go_wp2_with fail
    refine (drawRouteAmts_any _ _ _ xs _ S0).mono ?_
    rintro e w1 ⟨⟨sa, ln, sc, ys, ra, rl, rc, zs, m, rfl, O1, hln, i1, hm⟩, b1⟩
    have hcap := O1.capB
    have z1 := b1.size
    have s1 := OF.fs Rd.enc_len O1
    cases hok : rOkS ys zs m with
    | false =>
      have hnil := rOkS_none hok
      go_wp2_with fail
      refine (routeAmtsA_impl _ _ _ _ _ _ m ys zs _ s1 i1 hcap).mono ?_
      rintro e w2 ⟨⟨a2, c2, he, o2⟩, b2⟩
      rw [hnil, hok] at he
      subst he
      go_wp2_with fail
      refine (routeAmts_spec _ _ _ _ _ _ m ys zs _ (FS.keep s1 b2) (i1.keep b2)).mono ?_
      rintro e w3 ⟨⟨a3, c3, he, o3⟩, b3⟩
      rw [hnil, hok] at he
      subst he
      clear hnil hok
      go_wp2
      go_ret
      exact ⟨rfl, b1.trans ((b2.mono z1).trans (b3.mono (Nat.le_trans z1 b2.size)))⟩
    | true =>
      obtain ⟨hro, hrb, hrk, L, hL, hA⟩ := rOkS_in hok
      obtain ⟨g1, g2, g3⟩ := routeAmts_law hL
      obtain ⟨x0, L0, hx0, hfee, hb0, hbm⟩ := rFeeS_t hok
      have hbd := (routeAmts_out hL).2.1
      have hin := (routeB_in hrb).2.2
      have hl1 := (routeAmts_out hL).2.2.1
      have hl8 := (routeAmts_out hL).2.2.2
      rw [hA] at hx0
      have hzl := i1.1
      obtain ⟨nl, hnl⟩ : ∃ nl, nl = L.length := ⟨_, rfl⟩
      have hnz : zs.length = nl := by omega
      have hrl : rl = nl := by omega
      subst hrl
      have H1 := Lib.hid hok
      have H2 := Lib.hid hA
      have H3 := Lib.hid hnl
      have H4 := Lib.hid g2
      have H5 := Lib.hid g3
      have H6 := Lib.hid hx0
      have H7 := Lib.hid hin
      have H8 := Lib.hid hrk
      have H9 := Lib.hid hfee
      have H10 := Lib.hid hbd
      have q0 : 1 ≤ rl := by omega
      have q8 : rl ≤ 8 := by omega
      obtain ⟨fee, hfe⟩ : ∃ fee, fee = rFeeS ys zs m := ⟨_, rfl⟩
      have H11 := Lib.hid hfe
      have hfx : x0 = m + fee := by rw [hfe, hfee]; omega
      have H12 := Lib.hid hfx
      clear hok hA g2 g3 hx0 hin hrk hfee hbd hL hro hrb hzl g1 hnl hnz hfx hfe hl1 hl8
      go_wp2_with fail
      refine (routeAmtsA_impl _ _ _ _ _ _ m ys zs _ s1 i1 hcap).mono ?_
      rintro e w2 ⟨⟨a2, c2, he, o2⟩, b2⟩
      rw [H2.out, H1.out, ← H3.out] at he
      rw [H2.out, ← H3.out] at o2
      subst he
      go_wp2_with fail
      refine (routeAmts_spec _ _ _ _ _ _ m ys zs _ (FS.keep s1 b2) (i1.keep b2)).mono ?_
      rintro e w3 ⟨⟨a3, c3, he, o3⟩, b3⟩
      rw [H2.out, H1.out, ← H3.out] at he
      subst he
      have b12 := b2.trans (b3.mono b2.size)
      go_wp2_with fail
      refine (routeFee_impl _ _ _ _ _ _ m ys zs _ (FS.keep s1 b12) (i1.keep b12) hcap).mono ?_
      rintro e w4 ⟨he, b4⟩
      rw [H1.out, ← H11.out] at he
      subst he
      have b14 := b12.trans (b4.mono b12.size)
      have s4 := FS.keep s1 b14
      have r4 := i1.keep b14
      have i4 := (o2.keep (b3.trans (b4.mono b3.size))).is
      have B4 : Below w.heap.size w w4 := b1.trans (b14.mono z1)
      clear s1 i1 o2 o3 b2 b3 b4 b12
      go_wp2
      go_loopw [12, 13, 14, 15] (fun i _ _ _ wr => ∃ k : Nat, 1 ≤ k ∧ k ≤ rl ∧ i = .int .i64 k ∧ Below w4.heap.size w4 wr) (fun i _ _ _ _ => rl - (intOf i).toNat)
      case atStart => exact ⟨1, Nat.le_refl _, q0, rfl, Below.refl _ _⟩
      case round =>
        obtain ⟨k, hk1, hk, rfl, hB⟩ := hrel
        by_cases hlt : k < rl
        · obtain ⟨bz, oz, z, rfl, hbz, hcz, hbdz, hz, _⟩ := (r4.keep hB).at_ hlt
          obtain ⟨zn, r, hzn, hr⟩ := H7.out k z hz.out
          subst hzn
          have hzlt : zn < ln := by have := (List.getElem?_eq_some_iff.1 hr).1; have := s4.1; omega
          obtain ⟨bl, ol, rf, rt, rb, rp, rcc, rfl, hbl, c0, c1, c2', c3', c4, o0, o1, o2, o3, o4, hrr, _⟩ := RdS.cells (FS.keep s4 hB) hzlt
          obtain ⟨bx, ox, x, rfl, hbx, hcx, hbdx, hx, _⟩ := (i4.keep hB).at_ hlt
          obtain ⟨by', oy, y, e, hby, hcy, hbdy, hy, _⟩ := (i4.keep hB).at_ (k := k - 1) (by omega)
          injection e with e
          injection e with e1 e2
          subst e1
          subst e2
          have hlaw := H5.out (k - 1) x y zn _ hy.out (by rw [show k - 1 + 1 = k by omega]; exact hx.out) (by rw [show k - 1 + 1 = k by omega]; exact hz.out) hrr.out
          simp only at hlaw
          obtain ⟨hyx, hxc⟩ := hlaw
          have hxb := H10.out x (List.mem_of_getElem? hx.out)
          have hyb := H10.out y (List.mem_of_getElem? hy.out)
          have hvb := feeV_bd rb rp x true
          have q1 : IntKind.i64.wrap ((k : Int) - 1) = ((k - 1 : Nat) : Int) := by rw [IntKind.wrap_i64]; omega
          have q2 : IntKind.i64.wrap (x + feeV rb rp x true) = y := by rw [IntKind.wrap_i64]; omega
          have q3 : decide (rcc < x) = false := decide_eq_false (by omega)
          have q4 : k - 1 < rl := by omega
          have Hyx := Lib.hid hyx
          clear hyx
          have d2 : (wr.alloc (.cells #[.int .i64 rf, .int .i64 rt, .int .i64 rb, .int .i64 rp, .int .i64 rcc] 48)).cell? ⟨wr.heap.size, 2, none⟩ = some (.int .i64 rb) := by simp [go_sem]
          have d3 : (wr.alloc (.cells #[.int .i64 rf, .int .i64 rt, .int .i64 rb, .int .i64 rp, .int .i64 rcc] 48)).cell? ⟨wr.heap.size, 3, none⟩ = some (.int .i64 rp) := by simp [go_sem]
          have d4 : (wr.alloc (.cells #[.int .i64 rf, .int .i64 rt, .int .i64 rb, .int .i64 rp, .int .i64 rcc] 48)).cell? ⟨wr.heap.size, 4, none⟩ = some (.int .i64 rcc) := by simp [go_sem]
          have dx := cell_keep (below_alloc (Below.refl wr.heap.size wr) (.cells #[.int .i64 rf, .int .i64 rt, .int .i64 rb, .int .i64 rp, .int .i64 rcc] 48)) hcx
          have dy := cell_keep (below_alloc (Below.refl wr.heap.size wr) (.cells #[.int .i64 rf, .int .i64 rt, .int .i64 rb, .int .i64 rp, .int .i64 rcc] 48)) hcy
          have BW : Below w4.heap.size w4 (wr.alloc (.cells #[.int .i64 rf, .int .i64 rt, .int .i64 rb, .int .i64 rp, .int .i64 rcc] 48)) := below_alloc hB _
          go_wp2
          obtain ⟨W, hW⟩ : ∃ W, W = wr.alloc (.cells #[.int .i64 rf, .int .i64 rt, .int .i64 rb, .int .i64 rp, .int .i64 rcc] 48) := ⟨_, rfl⟩
          rw [← hW] at d2 d3 d4 dx dy BW ⊢
          clear hW
          have d2g := fun g : Grew W => g.cell d2
          have d3g := fun g : Grew W => g.cell d3
          have dxg := fun g : Grew W => g.cell dx
          refine wp_region_grew (by kernel_rfl) (by kernel_rfl) ?_
          repeat (go_big_quiet_step ((go_at_call 28; exact Calls.grew_of (feeUp1_impl _ _ _ _))))
          refine wpQuiet_nil ?_
          rintro _ ⟨gw, rfl⟩
          obtain ⟨wg, hbg⟩ := gw
          dsimp only
          clear d2g d3g dxg
          have f4 := cell_keep hbg d4
          have fx := cell_keep hbg dx
          have fy := cell_keep hbg dy
          have BG : Below w4.heap.size w4 wg := below_via hbg BW
          go_wp2
          go_quiet (fail)
          go_wp2
          go_roundw
          case rel => exact ⟨k + 1, by omega, by omega, by go_num, below_drewN BG⟩
          case measure => simp [intOf]; omega
        · have e : k = rl := by omega
          subst e
          obtain ⟨bx, ox, x, rfl, hbx, hcx, hbdx, hx, _⟩ := (i4.keep hB).at_ (k := 0) (by omega)
          obtain ⟨by', oy, y, e, hby, hcy, hbdy, hy, _⟩ := (i4.keep hB).at_ (k := k - 1) (by omega)
          injection e with e
          injection e with e1 e2
          subst e1
          subst e2
          have hx1 := hx.out
          rw [H6.out] at hx1
          obtain rfl : x0 = x := by simpa using hx1
          have hy1 := hy.out
          rw [H3.out, H4.out] at hy1
          obtain rfl : m = y := by simpa using hy1
          simp only [Nat.add_zero] at hcx
          have hmf : 0 ≤ m + fee ∧ m + fee ≤ 1125899906842624 := by have := H12.out; omega
          have hq : (x0 == m + fee) = true := by simp [H12.out]
          have q1 : IntKind.i64.wrap ((k : Int) - 1) = ((k - 1 : Nat) : Int) := by rw [IntKind.wrap_i64]; omega
          have q2 : (k : Int) - 1 = ((k - 1 : Nat) : Int) := by omega
          have q4 : k - 1 < k := by omega
          clear hx1 hy1
          go_wp2_with (go_at_call 29; refine (routeOkA_impl _ _ _ _ _ _ ys zs _ (FS.keep s4 hB) (r4.keep hB) hcap).mono ?_; rintro e w5 ⟨he, b5⟩; rw [H8.out] at he; subst he)
          go_ret
          exact ⟨rfl, B4.trans ((hB.mono B4.size).trans (b5.mono (Nat.le_trans B4.size hB.size)))⟩
  · go_enter Try.func6, Try.ntmps6
    go_wp2
    go_ret
    exact ⟨rfl, Below.refl _ _⟩

end Go.Proofs.Ytegnlijgjcfmlaa
