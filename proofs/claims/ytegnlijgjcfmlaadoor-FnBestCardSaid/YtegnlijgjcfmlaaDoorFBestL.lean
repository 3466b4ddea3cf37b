/- The best route: the law walked. -/
import Derived.Test.YtegnlijgjcfmlaaDoorFBest
import Derived.Test.YtegnlijgjcfmlaaDoorDrawR2
import Derived.Test.YtegnlijgjcfmlaaDoorWBest5
import Derived.Test.YtegnlijgjcfmlaaDoorRTextI
import Derived.Test.YtegnlijgjcfmlaaDoorOpenB
namespace Go.Proofs.YtegnlijgjcfmlaaDoor
open Go.RowKit
set_option linter.unusedVariables false
set_option linter.unusedSimpArgs false

set_option maxRecDepth 100000 in
set_option maxHeartbeats 3200000 in
theorem drawRouteBest_any (a : Option Addr) (len cap : Nat) (xs : List Int) (w : World) (S0 : Bs w w.heap.size a len xs) : Calls Tryd.prog 9 #[.slice a len cap] w fun e w' =>
    (∃ (sa : Option Addr) (ln sc : Nat) (ys : List Rd) (fr dst m hops : Int), e = .returned (.tuple #[.slice sa ln sc, .int .i64 fr, .int .i64 dst, .int .i64 m, .int .i64 hops]) ∧ RdO w' w.heap.size sa ln sc ys ∧ ln ≤ 12 ∧ (1 ≤ fr ∧ fr ≤ 5) ∧ (1 ≤ dst ∧ dst ≤ 5) ∧ (-9223372036854775808 ≤ m ∧ m ≤ 9223372036854775807) ∧ (0 ≤ hops ∧ hops ≤ 5)) ∧ Below w.heap.size w w' := by
  go_enter Tryd.func9, Tryd.ntmps9
  go_wp2_with fail
  refine (new_any _ _ _ xs _ S0).mono ?_
  rintro e w1 ⟨rfl, C1, H0⟩
  have D0 := Drew.refl C1
  have hg := C1.lt
  go_wp2_with fail
  refine (l14Any_any _ _ _ _ _ C1).mono ?_
  rintro e w2 ⟨⟨sa, ln, sc, ys, rfl, O0, hln⟩, D1⟩
  replace D0 := D0.trans D1
  clear D1
  go_wp2_with fail
  refine (below_any _ _ _ _ _ _ D0.cur).mono ?_
  rintro e w3 ⟨⟨x, rfl, hx0, hx1⟩, D1⟩
  replace O0 := O0.keepG D1.grown hg
  replace D0 := D0.trans D1
  clear D1
  go_wp2_with fail
  refine (below_any _ _ _ _ _ _ D0.cur).mono ?_
  rintro e w4 ⟨⟨y, rfl, hy0, hy1⟩, D1⟩
  replace O0 := O0.keepG D1.grown hg
  replace D0 := D0.trans D1
  clear D1
  go_wp2_with fail
  refine (l14Amt_any _ _ _ _ _ D0.cur).mono ?_
  rintro e w5 ⟨⟨m, rfl, hm⟩, D1⟩
  replace O0 := O0.keepG D1.grown hg
  replace D0 := D0.trans D1
  clear D1
  go_wp2_with fail
  refine (below_any _ _ _ _ _ _ D0.cur).mono ?_
  rintro e w6 ⟨⟨z, rfl, hz0, hz1⟩, D1⟩
  replace O0 := O0.keepG D1.grown hg
  replace D0 := D0.trans D1
  clear D1
  go_wp2
  refine bodyPost_ret (by simp only [results, Tryd.results9]; go_simp; rfl) rfl ?_
  exact ⟨⟨sa, ln, sc, ys, _, _, m, z, rfl, O0.le H0.size, hln, by omega, by omega, hm, by omega⟩, Drew.below H0 D0⟩

theorem IS.two (w : World) (n k : Int) (hn : -9223372036854775808 ≤ n ∧ n ≤ 9223372036854775807) (hk : -9223372036854775808 ≤ k ∧ k ≤ 9223372036854775807) (t : TypeId) (g : Nat) (hg : g = w.heap.size) : IS (w.alloc (.cells #[.int .i64 n, .int .i64 k] t)) (w.alloc (.cells #[.int .i64 n, .int .i64 k] t)).heap.size (some ⟨g, 0, none⟩) 2 [n, k] := by
  subst hg
  refine ⟨rfl, by simp [maxLen], by intro x hx; simp at hx; rcases hx with rfl | rfl <;> assumption, fun i x hx => ?_⟩
  match i, hx with
  | 0, hx =>
    simp at hx
    subst hx
    exact ⟨w.heap.size, 0, rfl, by simp, by simp [go_sem]⟩
  | 1, hx =>
    simp at hx
    subst hx
    exact ⟨w.heap.size, 0, rfl, by simp, by simp [go_sem]⟩
  | i + 2, hx => simp at hx
theorem rText_ne {xs : List Int} (h : xs ≠ []) (hin : rtIn xs = true) : rText xs ≠ [] := by
  cases xs with
  | nil => exact absurd rfl h
  | cons x r =>
    unfold rText
    rw [if_pos hin]
    have h' : inB x 0 40 = true ∧ rtIn r = true := by simpa [rtIn] using hin
    have hd := digs_len h'.1
    unfold rtJ
    rw [List.map_cons, Lib.join_cons]
    intro h0
    have h9 := congrArg List.length h0
    rw [List.length_append, List.length_nil] at h9
    omega
theorem route_rtIn {l : List Rd} {xs : List Int} (hl : l.length ≤ 40) (h : routeB l xs = true) : rtIn xs = true := by
  unfold rtIn
  rw [List.all_eq_true]
  intro x hx
  obtain ⟨k, hk⟩ := List.getElem?_of_mem hx
  obtain ⟨y, r, rfl, hr⟩ := (routeB_in h).2.2 k x hk
  have := (List.getElem?_eq_some_iff.1 hr).1
  exact decide_eq_true (by omega)

set_option maxRecDepth 100000 in
set_option maxHeartbeats 16000000 in
theorem walk_FnBest (a : Option Addr) (len cap : Nat) (xs : List Int) (w : World) (S0 : Bs w w.heap.size a len xs) : Calls Tryd.prog 3 #[.slice a len cap] w fun e w' => e = .returned (.bool true) ∧ Below w.heap.size w w' := by
  have hl := S0.lenB
  by_cases hlen : len ≤ 1048576
  · go_enter Tryd.func3, Tryd.ntmps3
    go_wp2_with fail
    refine (drawRouteBest_any _ _ _ xs _ S0).mono ?_
    rintro e w1 ⟨⟨sa, ln, sc, ys, fr, dst, m, hops, rfl, O1, hln, hfr, hdst, hm, hh⟩, b1⟩
    have hcap := O1.capB
    have z1 := b1.size
    have s1 := OF.fs Rd.enc_len O1
    have hyl := O1.2.1
    clear O1
    by_cases hE : bestR ys fr dst m hops = []
    · go_wp2_with fail
      refine (routeBest_impl _ _ _ _ _ _ _ ys _ s1 hcap (by omega)).mono ?_
      rintro e w2 ⟨⟨a2, c2, he, o2⟩, b2⟩
      rw [hE] at he
      subst he
      go_wp2_with fail
      refine (routeBest_spec _ _ _ _ _ _ _ ys _ (FS.keep s1 b2)).mono ?_
      rintro e w3 ⟨a3, l3, c3, he, i3, b3, -⟩
      rw [hE] at he
      subst he
      clear hE i3 o2
      go_wp2
      go_ret
      exact ⟨rfl, b1.trans ((b2.mono z1).trans (b3.mono (Nat.le_trans z1 b2.size)))⟩
    · obtain ⟨hro, hhb, hgood⟩ := bestR_good hE
      obtain ⟨hok, hlh, ⟨z0, r0, hz0, hr0, hf0⟩, ⟨zl, rl, hzl, hrl, htl⟩⟩ := hgood hE
      have hinB : inB hops 1 4 = true := decide_eq_true hhb
      have hone := fun (i : Nat) (x : Rd) (hx : ys[i]? = some x) (hf : x.f = fr) (ht : x.t = dst) (ho : rOk ys [(i : Int)] m = true) => bestR_one hro hinB hx hf ht ho
      have htwo := fun (i k : Nat) (x y : Rd) (hx : ys[i]? = some x) (hy : ys[k]? = some y) (hf : x.f = fr) (ht : y.t = dst) (h2 : 1 < hops) (ho : rOk ys [(i : Int), (k : Int)] m = true) => bestR_two hro hinB hx hy hf ht h2 ho
      have h8 := bestR_len ys fr dst m hops
      have hne : (!(bestR ys fr dst m hops).isEmpty) = true := by
        cases hh2 : bestR ys fr dst m hops with
        | nil => exact absurd hh2 hE
        | cons x t => rfl
      have h40 := roadsOk_len hro
      have hrt := rText_ne hE (route_rtIn h40 (rOk_routeB hok))
      obtain ⟨L, hL⟩ : ∃ L, L = bestR ys fr dst m hops := ⟨_, rfl⟩
      obtain ⟨nb, hnb⟩ : ∃ nb, nb = L.length := ⟨_, rfl⟩
      obtain ⟨F, hF⟩ : ∃ F, F = rFee ys L m := ⟨_, rfl⟩
      have hFS : rFeeS ys L m = F := by rw [rFeeS_eq hro, hF]
      have hOS : rOkS ys L m = true := by rw [rOkS_t hro, hL]; exact hok
      have hn1 : 1 ≤ nb := by
        rw [hnb, hL]
        cases hh2 : bestR ys fr dst m hops with
        | nil => exact absurd hh2 hE
        | cons x t => simp
      have hnbh : (nb : Int) ≤ hops := by rw [hnb, hL]; omega
      have hn8 : nb ≤ 8 := by rw [hnb, hL]; exact h8
      have hFb : -1125899906842624 ≤ F ∧ F ≤ 1125899906842624 := by rw [hF]; exact rFee_bd _ _ _
      rw [← hL] at hz0 hzl hne hrt hone htwo
      rw [← hF] at hone htwo
      rw [List.getLast?_eq_getElem?, ← hnb] at hzl
      have H1 := Lib.hid hone
      have H2 := Lib.hid htwo
      have H3 := Lib.hid hz0
      have H4 := Lib.hid hr0
      have H5 := Lib.hid hf0
      have H6 := Lib.hid hzl
      have H7 := Lib.hid hrl
      have H8 := Lib.hid htl
      have H9 := Lib.hid hnb
      have H10 := Lib.hid hL
      have H11 := Lib.hid hFS
      have H12 := Lib.hid hOS
      have H13 := Lib.hid hrt
      have H14 := Lib.hid hne
      have H15 := Lib.hid hro
      clear hE hgood hok hlh hz0 hr0 hf0 hzl hrl htl hone htwo h8 hne hrt hL hnb hF hFS hOS hro hinB
      go_wp2_with fail
      refine (routeBest_impl _ _ _ _ _ _ _ ys _ s1 hcap (by omega)).mono ?_
      rintro e w2 ⟨⟨a2, c2, he, o2⟩, b2⟩
      rw [← H10.out, H14.out, ← H9.out] at he
      rw [← H10.out, ← H9.out] at o2
      subst he
      go_wp2_with fail
      refine (routeBest_spec _ _ _ _ _ _ _ ys _ (FS.keep s1 b2)).mono ?_
      rintro e w3 ⟨a3, l3, c3, he, i3, b3, -⟩
      rw [← H10.out, H14.out] at he
      subst he
      have b12 := b2.trans (b3.mono b2.size)
      clear i3
      go_wp2_with fail
      refine (routeFee_impl _ _ _ _ _ _ m ys L _ (FS.keep s1 b12) (OI.is (o2.keep b3)) hcap).mono ?_
      rintro e w4 ⟨he, b4⟩
      rw [H11.out, H12.out] at he
      subst he
      have b14 := b12.trans (b4.mono b12.size)
      have s4 := FS.keep s1 b14
      have i4 := OI.is (o2.keep (b3.trans (b4.mono b3.size)))
      have B4 : Below w.heap.size w w4 := b1.trans (b14.mono z1)
      clear s1 o2 b2 b3 b4 b12
      go_wp2
      go_loopw [14, 15, 16, 17, 18, 19, 20, 21, 68] (fun _ _ _ _ _ _ _ _ i wr => ∃ k : Nat, k ≤ ln ∧ i = .int .i64 k ∧ Below w4.heap.size w4 wr) (fun _ _ _ _ _ _ _ _ i _ => ln - (intOf i).toNat)
      case atStart => exact ⟨0, Nat.zero_le _, rfl, Below.refl _ _⟩
      case round =>
        obtain ⟨k, hk, rfl, hB⟩ := hrel
        by_cases hlt : k < ln
        · obtain ⟨g, off, xf, xt, xb, xp, xc, rfl, hgb, c0, c1, c2', c3', c4, o0, o1, o2, o3, o4, hx, _⟩ := RdS.cells (FS.keep s4 hB) hlt
          clear o2 o3 o4
          obtain ⟨BX, hBX⟩ : ∃ BX, BX = wr := ⟨_, rfl⟩
          subst hBX
          go_wp2_with fail
          refine (routeFee_impl _ _ _ _ _ _ m ys [(k : Int)] _ (FS.keep (FS.keep s4 hB) (below_alloc (below_alloc (Below.refl _ _) _) _)) (IS.one _ (k : Int) (by omega) _ (BX.heap.size + 1) (by simp)) hcap).mono ?_
          rintro e w5 ⟨he, b5⟩
          have hd1 := fun h1 h2 h3 => H1.out k _ hx.out h1 h2 h3
          rw [← rOkS_t H15.out, ← rFeeS_eq H15.out] at hd1
          have hv1b : -1125899906842624 ≤ rFeeS ys [(k : Int)] m ∧ rFeeS ys [(k : Int)] m ≤ 1125899906842624 := by rw [rFeeS_eq H15.out]; exact rFee_bd _ _ _
          generalize rFeeS ys [(k : Int)] m = v1 at he hd1 hv1b
          generalize rOkS ys [(k : Int)] m = q1 at he hd1
          subst he
          simp only at hd1
          have d0 : w5.cell? ⟨BX.heap.size, 0, none⟩ = some (.int .i64 xf) := cell_keep b5 (by simp [go_sem])
          have d1 : w5.cell? ⟨BX.heap.size, 1, none⟩ = some (.int .i64 xt) := cell_keep b5 (by simp [go_sem])
          have hBs := hB.size
          have B5 : Below w4.heap.size w4 w5 := (below_alloc (below_alloc hB _) _).trans (b5.mono (by simp; omega))
          have s5 := FS.keep s4 B5
          have Hd1 := Lib.hid hd1
          clear hd1 c0 c1 c2' c3' c4 b5
          cases q1 with
          | false =>
            go_wp2
            go_loopw [18, 19, 20, 21, 101] (fun _ _ _ _ j wi => ∃ t : Nat, t ≤ ln ∧ j = .int .i64 t ∧ Below w5.heap.size w5 wi) (fun _ _ _ _ j _ => ln - (intOf j).toNat)
            case atStart => exact ⟨0, Nat.zero_le _, rfl, Below.refl _ _⟩
            case round =>
              obtain ⟨wi, hwi⟩ : ∃ wi, wi = wr := ⟨_, rfl⟩
              subst hwi
              obtain ⟨t, ht, rfl, hB2⟩ := hrel
              by_cases hlt2 : t < ln
              · obtain ⟨g', off', yf, yt, yb, yp, yc, e', hgb', p0, p1, p2, p3, p4, u0, u1, u2, u3, u4, hy, _⟩ := RdS.cells (FS.keep s5 hB2) hlt2
                simp only [Option.some.injEq, Addr.mk.injEq, and_true] at e'
                obtain ⟨e1, e2⟩ := e'
                subst e1
                subst e2
                clear u2 u3 u4
                go_wp2_with fail
                refine (routeFee_impl _ _ _ _ _ _ m ys [(k : Int), (t : Int)] _ (FS.keep (FS.keep s5 hB2) (below_alloc (below_alloc (Below.refl _ _) _) _)) (IS.two _ (k : Int) (t : Int) (by omega) (by omega) _ (wi.heap.size + 1) (by simp)) hcap).mono ?_
                rintro e w7 ⟨he, b7⟩
                have hd2 := fun h1 h2 h3 h4 => H2.out k t _ _ hx.out hy.out h1 h2 h3 h4
                rw [← rOkS_t H15.out, ← rFeeS_eq H15.out] at hd2
                have hv2b : -1125899906842624 ≤ rFeeS ys [(k : Int), (t : Int)] m ∧ rFeeS ys [(k : Int), (t : Int)] m ≤ 1125899906842624 := by rw [rFeeS_eq H15.out]; exact rFee_bd _ _ _
                generalize rFeeS ys [(k : Int), (t : Int)] m = v2 at he hd2 hv2b
                generalize rOkS ys [(k : Int), (t : Int)] m = q2 at he hd2
                subst he
                simp only at hd2
                have f0 : w7.cell? ⟨BX.heap.size, 0, none⟩ = some (.int .i64 xf) := cell_keep b7 (cell_keep (below_alloc (below_alloc (Below.refl _ _) _) _) (cell_keep hB2 d0))
                have f1 : w7.cell? ⟨wi.heap.size, 1, none⟩ = some (.int .i64 yt) := cell_keep b7 (by simp [go_sem])
                have Hd2 := Lib.hid hd2
                clear hd2 p0 p1 p2 p3 p4
                cases q2 with
                | false =>
                  go_wp2
                  go_roundw
                  case rel => exact ⟨t + 1, by omega, by go_num, (below_alloc (below_alloc hB2 _) _).trans (b7.mono (by have := hB2.size; simp; omega))⟩
                  case measure => simp [intOf]; omega
                | true =>
                  by_cases hh1 : 1 < hops
                  · by_cases hxf : xf = fr
                    · by_cases hyt : yt = dst
                      · have hle : F ≤ v2 := Hd2.out hxf hyt hh1 rfl
                        have n1 : decide (v2 < F) = false := decide_eq_false (by omega)
                        have n2 : (xf == fr) = true := by simp [hxf]
                        have n3 : (yt == dst) = true := by simp [hyt]
                        clear hxf hyt
                        go_wp2
                        go_roundw
                        case rel => exact ⟨t + 1, by omega, by go_num, (below_alloc (below_alloc hB2 _) _).trans (b7.mono (by have := hB2.size; simp; omega))⟩
                        case measure => simp [intOf]; omega
                      · have n2 : (xf == fr) = true := by simp [hxf]
                        have n3 : (yt == dst) = false := by simp [hyt]
                        clear hxf hyt
                        go_wp2
                        go_roundw
                        case rel => exact ⟨t + 1, by omega, by go_num, (below_alloc (below_alloc hB2 _) _).trans (b7.mono (by have := hB2.size; simp; omega))⟩
                        case measure => simp [intOf]; omega
                    · first
                      | exact absurd (beq_iff_eq.1 n2) hxf
                      | (have n2 : (xf == fr) = false := by simp [hxf]
                         clear hxf
                         go_wp2
                         go_roundw
                         case rel => exact ⟨t + 1, by omega, by go_num, (below_alloc (below_alloc hB2 _) _).trans (b7.mono (by have := hB2.size; simp; omega))⟩
                         case measure => simp [intOf]; omega)
                  · go_wp2
                    go_roundw
                    case rel => exact ⟨t + 1, by omega, by go_num, (below_alloc (below_alloc hB2 _) _).trans (b7.mono (by have := hB2.size; simp; omega))⟩
                    case measure => simp [intOf]; omega
              · go_wp2
                go_roundw
                case rel => exact ⟨k + 1, by omega, by go_num, B5.trans (hB2.mono B5.size)⟩
                case measure => simp [intOf]; omega
          | true =>
            by_cases hxf : xf = fr
            · by_cases hxt : xt = dst
              · have hle : F ≤ v1 := Hd1.out hxf hxt rfl
                have n1 : decide (v1 < F) = false := decide_eq_false (by omega)
                have n2 : (xf == fr) = true := by simp [hxf]
                have n3 : (xt == dst) = true := by simp [hxt]
                clear hxf hxt
                go_wp2
                go_loopw [18, 19, 20, 21, 101] (fun _ _ _ _ j wi => ∃ t : Nat, t ≤ ln ∧ j = .int .i64 t ∧ Below w5.heap.size w5 wi) (fun _ _ _ _ j _ => ln - (intOf j).toNat)
                case atStart => exact ⟨0, Nat.zero_le _, rfl, Below.refl _ _⟩
                case round =>
                  obtain ⟨wi, hwi⟩ : ∃ wi, wi = wr := ⟨_, rfl⟩
                  subst hwi
                  obtain ⟨t, ht, rfl, hB2⟩ := hrel
                  by_cases hlt2 : t < ln
                  · obtain ⟨g', off', yf, yt, yb, yp, yc, e', hgb', p0, p1, p2, p3, p4, u0, u1, u2, u3, u4, hy, _⟩ := RdS.cells (FS.keep s5 hB2) hlt2
                    simp only [Option.some.injEq, Addr.mk.injEq, and_true] at e'
                    obtain ⟨e1, e2⟩ := e'
                    subst e1
                    subst e2
                    clear u2 u3 u4
                    go_wp2_with fail
                    refine (routeFee_impl _ _ _ _ _ _ m ys [(k : Int), (t : Int)] _ (FS.keep (FS.keep s5 hB2) (below_alloc (below_alloc (Below.refl _ _) _) _)) (IS.two _ (k : Int) (t : Int) (by omega) (by omega) _ (wi.heap.size + 1) (by simp)) hcap).mono ?_
                    rintro e w7 ⟨he, b7⟩
                    have hd2 := fun h1 h2 h3 h4 => H2.out k t _ _ hx.out hy.out h1 h2 h3 h4
                    rw [← rOkS_t H15.out, ← rFeeS_eq H15.out] at hd2
                    have hv2b : -1125899906842624 ≤ rFeeS ys [(k : Int), (t : Int)] m ∧ rFeeS ys [(k : Int), (t : Int)] m ≤ 1125899906842624 := by rw [rFeeS_eq H15.out]; exact rFee_bd _ _ _
                    generalize rFeeS ys [(k : Int), (t : Int)] m = v2 at he hd2 hv2b
                    generalize rOkS ys [(k : Int), (t : Int)] m = q2 at he hd2
                    subst he
                    simp only at hd2
                    have f0 : w7.cell? ⟨BX.heap.size, 0, none⟩ = some (.int .i64 xf) := cell_keep b7 (cell_keep (below_alloc (below_alloc (Below.refl _ _) _) _) (cell_keep hB2 d0))
                    have f1 : w7.cell? ⟨wi.heap.size, 1, none⟩ = some (.int .i64 yt) := cell_keep b7 (by simp [go_sem])
                    have Hd2 := Lib.hid hd2
                    clear hd2 p0 p1 p2 p3 p4
                    cases q2 with
                    | false =>
                      go_wp2
                      go_roundw
                      case rel => exact ⟨t + 1, by omega, by go_num, (below_alloc (below_alloc hB2 _) _).trans (b7.mono (by have := hB2.size; simp; omega))⟩
                      case measure => simp [intOf]; omega
                    | true =>
                      by_cases hh1 : 1 < hops
                      · by_cases hxf : xf = fr
                        · by_cases hyt : yt = dst
                          · have hle : F ≤ v2 := Hd2.out hxf hyt hh1 rfl
                            have n1 : decide (v2 < F) = false := decide_eq_false (by omega)
                            have n2 : (xf == fr) = true := by simp [hxf]
                            have n3 : (yt == dst) = true := by simp [hyt]
                            clear hxf hyt
                            go_wp2
                            go_roundw
                            case rel => exact ⟨t + 1, by omega, by go_num, (below_alloc (below_alloc hB2 _) _).trans (b7.mono (by have := hB2.size; simp; omega))⟩
                            case measure => simp [intOf]; omega
                          · have n2 : (xf == fr) = true := by simp [hxf]
                            have n3 : (yt == dst) = false := by simp [hyt]
                            clear hxf hyt
                            go_wp2
                            go_roundw
                            case rel => exact ⟨t + 1, by omega, by go_num, (below_alloc (below_alloc hB2 _) _).trans (b7.mono (by have := hB2.size; simp; omega))⟩
                            case measure => simp [intOf]; omega
                        · first
                          | exact absurd (beq_iff_eq.1 n2) hxf
                          | (have n2 : (xf == fr) = false := by simp [hxf]
                             clear hxf
                             go_wp2
                             go_roundw
                             case rel => exact ⟨t + 1, by omega, by go_num, (below_alloc (below_alloc hB2 _) _).trans (b7.mono (by have := hB2.size; simp; omega))⟩
                             case measure => simp [intOf]; omega)
                      · go_wp2
                        go_roundw
                        case rel => exact ⟨t + 1, by omega, by go_num, (below_alloc (below_alloc hB2 _) _).trans (b7.mono (by have := hB2.size; simp; omega))⟩
                        case measure => simp [intOf]; omega
                  · go_wp2
                    go_roundw
                    case rel => exact ⟨k + 1, by omega, by go_num, B5.trans (hB2.mono B5.size)⟩
                    case measure => simp [intOf]; omega
              · have n2 : (xf == fr) = true := by simp [hxf]
                have n3 : (xt == dst) = false := by simp [hxt]
                clear hxf hxt
                go_wp2
                go_loopw [18, 19, 20, 21, 101] (fun _ _ _ _ j wi => ∃ t : Nat, t ≤ ln ∧ j = .int .i64 t ∧ Below w5.heap.size w5 wi) (fun _ _ _ _ j _ => ln - (intOf j).toNat)
                case atStart => exact ⟨0, Nat.zero_le _, rfl, Below.refl _ _⟩
                case round =>
                  obtain ⟨wi, hwi⟩ : ∃ wi, wi = wr := ⟨_, rfl⟩
                  subst hwi
                  obtain ⟨t, ht, rfl, hB2⟩ := hrel
                  by_cases hlt2 : t < ln
                  · obtain ⟨g', off', yf, yt, yb, yp, yc, e', hgb', p0, p1, p2, p3, p4, u0, u1, u2, u3, u4, hy, _⟩ := RdS.cells (FS.keep s5 hB2) hlt2
                    simp only [Option.some.injEq, Addr.mk.injEq, and_true] at e'
                    obtain ⟨e1, e2⟩ := e'
                    subst e1
                    subst e2
                    clear u2 u3 u4
                    go_wp2_with fail
                    refine (routeFee_impl _ _ _ _ _ _ m ys [(k : Int), (t : Int)] _ (FS.keep (FS.keep s5 hB2) (below_alloc (below_alloc (Below.refl _ _) _) _)) (IS.two _ (k : Int) (t : Int) (by omega) (by omega) _ (wi.heap.size + 1) (by simp)) hcap).mono ?_
                    rintro e w7 ⟨he, b7⟩
                    have hd2 := fun h1 h2 h3 h4 => H2.out k t _ _ hx.out hy.out h1 h2 h3 h4
                    rw [← rOkS_t H15.out, ← rFeeS_eq H15.out] at hd2
                    have hv2b : -1125899906842624 ≤ rFeeS ys [(k : Int), (t : Int)] m ∧ rFeeS ys [(k : Int), (t : Int)] m ≤ 1125899906842624 := by rw [rFeeS_eq H15.out]; exact rFee_bd _ _ _
                    generalize rFeeS ys [(k : Int), (t : Int)] m = v2 at he hd2 hv2b
                    generalize rOkS ys [(k : Int), (t : Int)] m = q2 at he hd2
                    subst he
                    simp only at hd2
                    have f0 : w7.cell? ⟨BX.heap.size, 0, none⟩ = some (.int .i64 xf) := cell_keep b7 (cell_keep (below_alloc (below_alloc (Below.refl _ _) _) _) (cell_keep hB2 d0))
                    have f1 : w7.cell? ⟨wi.heap.size, 1, none⟩ = some (.int .i64 yt) := cell_keep b7 (by simp [go_sem])
                    have Hd2 := Lib.hid hd2
                    clear hd2 p0 p1 p2 p3 p4
                    cases q2 with
                    | false =>
                      go_wp2
                      go_roundw
                      case rel => exact ⟨t + 1, by omega, by go_num, (below_alloc (below_alloc hB2 _) _).trans (b7.mono (by have := hB2.size; simp; omega))⟩
                      case measure => simp [intOf]; omega
                    | true =>
                      by_cases hh1 : 1 < hops
                      · by_cases hxf : xf = fr
                        · by_cases hyt : yt = dst
                          · have hle : F ≤ v2 := Hd2.out hxf hyt hh1 rfl
                            have n1 : decide (v2 < F) = false := decide_eq_false (by omega)
                            have n2 : (xf == fr) = true := by simp [hxf]
                            have n3 : (yt == dst) = true := by simp [hyt]
                            clear hxf hyt
                            go_wp2
                            go_roundw
                            case rel => exact ⟨t + 1, by omega, by go_num, (below_alloc (below_alloc hB2 _) _).trans (b7.mono (by have := hB2.size; simp; omega))⟩
                            case measure => simp [intOf]; omega
                          · have n2 : (xf == fr) = true := by simp [hxf]
                            have n3 : (yt == dst) = false := by simp [hyt]
                            clear hxf hyt
                            go_wp2
                            go_roundw
                            case rel => exact ⟨t + 1, by omega, by go_num, (below_alloc (below_alloc hB2 _) _).trans (b7.mono (by have := hB2.size; simp; omega))⟩
                            case measure => simp [intOf]; omega
                        · first
                          | exact absurd (beq_iff_eq.1 n2) hxf
                          | (have n2 : (xf == fr) = false := by simp [hxf]
                             clear hxf
                             go_wp2
                             go_roundw
                             case rel => exact ⟨t + 1, by omega, by go_num, (below_alloc (below_alloc hB2 _) _).trans (b7.mono (by have := hB2.size; simp; omega))⟩
                             case measure => simp [intOf]; omega)
                      · go_wp2
                        go_roundw
                        case rel => exact ⟨t + 1, by omega, by go_num, (below_alloc (below_alloc hB2 _) _).trans (b7.mono (by have := hB2.size; simp; omega))⟩
                        case measure => simp [intOf]; omega
                  · go_wp2
                    go_roundw
                    case rel => exact ⟨k + 1, by omega, by go_num, B5.trans (hB2.mono B5.size)⟩
                    case measure => simp [intOf]; omega
            · have n2 : (xf == fr) = false := by simp [hxf]
              clear hxf
              go_wp2
              go_loopw [18, 19, 20, 21, 101] (fun _ _ _ _ j wi => ∃ t : Nat, t ≤ ln ∧ j = .int .i64 t ∧ Below w5.heap.size w5 wi) (fun _ _ _ _ j _ => ln - (intOf j).toNat)
              case atStart => exact ⟨0, Nat.zero_le _, rfl, Below.refl _ _⟩
              case round =>
                obtain ⟨wi, hwi⟩ : ∃ wi, wi = wr := ⟨_, rfl⟩
                subst hwi
                obtain ⟨t, ht, rfl, hB2⟩ := hrel
                by_cases hlt2 : t < ln
                · obtain ⟨g', off', yf, yt, yb, yp, yc, e', hgb', p0, p1, p2, p3, p4, u0, u1, u2, u3, u4, hy, _⟩ := RdS.cells (FS.keep s5 hB2) hlt2
                  simp only [Option.some.injEq, Addr.mk.injEq, and_true] at e'
                  obtain ⟨e1, e2⟩ := e'
                  subst e1
                  subst e2
                  clear u2 u3 u4
                  go_wp2_with fail
                  refine (routeFee_impl _ _ _ _ _ _ m ys [(k : Int), (t : Int)] _ (FS.keep (FS.keep s5 hB2) (below_alloc (below_alloc (Below.refl _ _) _) _)) (IS.two _ (k : Int) (t : Int) (by omega) (by omega) _ (wi.heap.size + 1) (by simp)) hcap).mono ?_
                  rintro e w7 ⟨he, b7⟩
                  have hd2 := fun h1 h2 h3 h4 => H2.out k t _ _ hx.out hy.out h1 h2 h3 h4
                  rw [← rOkS_t H15.out, ← rFeeS_eq H15.out] at hd2
                  have hv2b : -1125899906842624 ≤ rFeeS ys [(k : Int), (t : Int)] m ∧ rFeeS ys [(k : Int), (t : Int)] m ≤ 1125899906842624 := by rw [rFeeS_eq H15.out]; exact rFee_bd _ _ _
                  generalize rFeeS ys [(k : Int), (t : Int)] m = v2 at he hd2 hv2b
                  generalize rOkS ys [(k : Int), (t : Int)] m = q2 at he hd2
                  subst he
                  simp only at hd2
                  have f0 : w7.cell? ⟨BX.heap.size, 0, none⟩ = some (.int .i64 xf) := cell_keep b7 (cell_keep (below_alloc (below_alloc (Below.refl _ _) _) _) (cell_keep hB2 d0))
                  have f1 : w7.cell? ⟨wi.heap.size, 1, none⟩ = some (.int .i64 yt) := cell_keep b7 (by simp [go_sem])
                  have Hd2 := Lib.hid hd2
                  clear hd2 p0 p1 p2 p3 p4
                  cases q2 with
                  | false =>
                    go_wp2
                    go_roundw
                    case rel => exact ⟨t + 1, by omega, by go_num, (below_alloc (below_alloc hB2 _) _).trans (b7.mono (by have := hB2.size; simp; omega))⟩
                    case measure => simp [intOf]; omega
                  | true =>
                    by_cases hh1 : 1 < hops
                    · by_cases hxf : xf = fr
                      · by_cases hyt : yt = dst
                        · have hle : F ≤ v2 := Hd2.out hxf hyt hh1 rfl
                          have n1 : decide (v2 < F) = false := decide_eq_false (by omega)
                          have n2 : (xf == fr) = true := by simp [hxf]
                          have n3 : (yt == dst) = true := by simp [hyt]
                          clear hxf hyt
                          go_wp2
                          go_roundw
                          case rel => exact ⟨t + 1, by omega, by go_num, (below_alloc (below_alloc hB2 _) _).trans (b7.mono (by have := hB2.size; simp; omega))⟩
                          case measure => simp [intOf]; omega
                        · have n2 : (xf == fr) = true := by simp [hxf]
                          have n3 : (yt == dst) = false := by simp [hyt]
                          clear hxf hyt
                          go_wp2
                          go_roundw
                          case rel => exact ⟨t + 1, by omega, by go_num, (below_alloc (below_alloc hB2 _) _).trans (b7.mono (by have := hB2.size; simp; omega))⟩
                          case measure => simp [intOf]; omega
                      · first
                        | exact absurd (beq_iff_eq.1 n2) hxf
                        | (have n2 : (xf == fr) = false := by simp [hxf]
                           clear hxf
                           go_wp2
                           go_roundw
                           case rel => exact ⟨t + 1, by omega, by go_num, (below_alloc (below_alloc hB2 _) _).trans (b7.mono (by have := hB2.size; simp; omega))⟩
                           case measure => simp [intOf]; omega)
                    · go_wp2
                      go_roundw
                      case rel => exact ⟨t + 1, by omega, by go_num, (below_alloc (below_alloc hB2 _) _).trans (b7.mono (by have := hB2.size; simp; omega))⟩
                      case measure => simp [intOf]; omega
                · go_wp2
                  go_roundw
                  case rel => exact ⟨k + 1, by omega, by go_num, B5.trans (hB2.mono B5.size)⟩
                  case measure => simp [intOf]; omega
        · have e : k = ln := by omega
          subst e
          obtain ⟨bx, ox, x, rfl, hbx, hcx, hbdx, hx, _⟩ := (i4.keep hB).at_ (k := 0) (by omega)
          obtain ⟨by', oy, y, e, hby, hcy, hbdy, hy, _⟩ := (i4.keep hB).at_ (k := nb - 1) (by omega)
          injection e with e
          injection e with e1 e2
          subst e1
          subst e2
          have hx1 := hx.out
          rw [H3.out] at hx1
          obtain rfl : (z0 : Int) = x := Option.some.inj hx1
          have hy1 := hy.out
          rw [H6.out] at hy1
          obtain rfl : (zl : Int) = y := Option.some.inj hy1
          have hz0l : z0 < k := by have h5 := (List.getElem?_eq_some_iff.1 H4.out).1; have := s4.1; omega
          have hzll : zl < k := by have h5 := (List.getElem?_eq_some_iff.1 H7.out).1; have := s4.1; omega
          obtain ⟨g, off, xf, xt, xb, xp, xc, rfl, hgb, c0, c1, c2', c3', c4, o0, o1, o2, o3, o4, hrx, _⟩ := RdS.cells (FS.keep s4 hB) hz0l
          obtain ⟨g', off', yf, yt, yb, yp, yc, e', hgb', p0, p1, p2, p3, p4, u0, u1, u2, u3, u4, hry, _⟩ := RdS.cells (FS.keep s4 hB) hzll
          simp only [Option.some.injEq, Addr.mk.injEq, and_true] at e'
          obtain ⟨e1, e2⟩ := e'
          subst e1
          subst e2
          have hr0 := H4.out
          rw [hrx.out] at hr0
          have hr0 := Option.some.inj hr0
          have hfx : xf = fr := by have := H5.out; rw [← hr0] at this; exact this
          have hr1 := H7.out
          rw [hry.out] at hr1
          have hr1 := Option.some.inj hr1
          have hty : yt = dst := by have := H8.out; rw [← hr1] at this; exact this
          subst hfx
          subst hty
          simp only [Nat.add_zero] at hcx
          have q1 : IntKind.i64.wrap ((nb : Int) - 1) = ((nb - 1 : Nat) : Int) := by rw [IntKind.wrap_i64]; omega
          have q2 : (nb : Int) - 1 = ((nb - 1 : Nat) : Int) := by omega
          have q4 : nb - 1 < nb := by omega
          obtain ⟨T, hT⟩ : ∃ T, T = S (rText L) := ⟨_, rfl⟩
          have hT3 : T ≠ { data := #[] } := by
            rw [hT]
            intro h
            have h5 := congrArg (fun s : ByteArray => s.data.toList) h
            simp [S] at h5
            exact H13.out h5
          have hT1 : T.toList.isEmpty = false := by
            cases hh4 : T.toList.isEmpty with
            | false => rfl
            | true => exact absurd ((toList_nil_iff_emptyBytes T).1 (List.isEmpty_iff.1 hh4)) hT3
          clear hT3
          have HT := Lib.hid hT
          clear hT hx1 hy1 hr0 hr1 o0 o1 o2 o3 o4 u0 u1 u2 u3 u4 c1 c2' c3' c4 p0 p2 p3 p4
          go_wp2_with (go_at_call 13; refine (routeText_impl _ _ _ L _ (i4.keep hB) (by omega)).mono ?_; rintro e w5 ⟨he, b5⟩; rw [← HT.out] at he; subst he)
          go_ret
          exact ⟨rfl, B4.trans ((hB.mono B4.size).trans (b5.mono (Nat.le_trans B4.size hB.size)))⟩
  · go_enter Tryd.func3, Tryd.ntmps3
    go_wp2
    go_ret
    exact ⟨rfl, Below.refl _ _⟩

end Go.Proofs.YtegnlijgjcfmlaaDoor
