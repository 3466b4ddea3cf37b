/- The best route, walked: the reference. -/
import Derived.Test.YtegnlijgjcfmlaaDoorRBest
import Derived.Test.YtegnlijgjcfmlaaDoorHold
namespace Go.Proofs.YtegnlijgjcfmlaaDoor
open Go.RowKit
set_option linter.unusedVariables false
set_option linter.unusedSimpArgs false

/-- a slice of integers in a world that has grown -/
def IntSl (B0 : Nat) (L : List Int) (w : World) (e : Ending) (w' : World) : Prop := ∃ a len c, e = .returned (.slice a len c) ∧ IS w' w'.heap.size a len L ∧ (a = none → c = 0) ∧ Below w.heap.size w w' ∧ (∀ p, a = some p → B0 ≤ p.block)
theorem roadsOk_len {l : List Rd} (h : roadsOk l = true) : l.length ≤ 40 := (roadsOk_out h).1

set_option maxHeartbeats 1600000 in
theorem less_spec (a : Option Addr) (len cap : Nat) (a' : Option Addr) (len' cap' : Nat) (xs ys : List Int) (w : World) (S0 : IS w w.heap.size a len xs) (S1 : IS w w.heap.size a' len' ys) :
    Calls Tryd.prog 106 #[.slice a len cap, .slice a' len' cap'] w fun e w' => e = .returned (.bool (lessI xs ys)) ∧ Below w.heap.size w w' := by
  have hl := S0.len
  have hl' := S1.len
  have Hx := Lib.hid S0.1
  have Hy := Lib.hid S1.1
  go_enter Tryd.func106, Tryd.ntmps106
  go_wp2
  go_loopw [5] (fun i wr => ∃ k : Nat, k ≤ len ∧ k ≤ len' ∧ i = .int .i64 k ∧ Hid (lessI (xs.drop k) (ys.drop k) = lessI xs ys) ∧ Below w.heap.size w wr) (fun i _ => len - (intOf i).toNat)
  case atStart => exact ⟨0, Nat.zero_le _, Nat.zero_le _, rfl, rfl, Below.refl _ _⟩
  case round =>
    obtain ⟨k, hk, hk', rfl, hd, hB⟩ := hrel
    by_cases hlt : k < len
    · by_cases hlt' : k < len'
      · obtain ⟨b, off, x, rfl, hb, hc, hbd, hx, _⟩ := (S0.keep hB).at_ hlt
        obtain ⟨b', off', y, rfl, hb', hc', hbd', hy, _⟩ := (S1.keep hB).at_ hlt'
        by_cases hxy : x = y
        · subst hxy
          have hq : (x != x) = false := by simp
          have Hd := Lib.hid ((lessI_eq hx.out hy.out).symm.trans hd.out)
          go_wp2
          go_quiet (fail)
          go_wp2
          go_roundw
          case rel => exact ⟨k + 1, by omega, by omega, by go_num, Hd, below_drewN hB⟩
          case measure => simp [intOf]; omega
        · have hq : (x != y) = true := by simp [hxy]
          have Hd := Lib.hid ((lessI_ne hx.out hy.out hxy).symm.trans hd.out)
          clear hxy
          by_cases hlx : x < y
          all_goals
            go_wp2
            go_quiet (fail)
            go_wp2
            go_quiet (fail)
            go_wp2
            go_ret
            exact ⟨ret_bool (by rw [← Hd.out] <;> first | exact (decide_eq_true hlx).symm | exact (decide_eq_false hlx).symm), by (repeat (first | (with_reducible exact Below.refl _ _) | (with_reducible assumption) | (with_reducible refine Below.setCell ?_ ?side _; case side => first | (with_reducible exact Nat.le_refl _) | (simp; done) | (simp only [World.size_alloc, World.size_setCell, World.size_drew, World.heap_drewN] at *; omega)) | (with_reducible refine below_alloc ?_ _) | (with_reducible refine Below.drew ?_) | (with_reducible refine below_drewN ?_) | (with_reducible refine below_via (by assumption) ?_)))⟩
      · have Hd : Hid (lessI xs ys = decide (xs.length < ys.length)) := by rw [← hd.out]; exact lessI_end (.inr (by have := Hy.out; omega)) (by have := Hx.out; omega) (by have := Hy.out; omega)
        go_wp2
        go_ret
        exact ⟨ret_bool (by rw [Hd.out, Hx.out, Hy.out] <;> simp), hB⟩
    · have Hd : Hid (lessI xs ys = decide (xs.length < ys.length)) := by rw [← hd.out]; exact lessI_end (.inl (by have := Hx.out; omega)) (by have := Hx.out; omega) (by have := Hy.out; omega)
      go_wp2
      go_ret
      exact ⟨ret_bool (by rw [Hd.out, Hx.out, Hy.out] <;> simp), hB⟩

set_option maxHeartbeats 1600000 in
theorem less_impl (a : Option Addr) (len cap : Nat) (a' : Option Addr) (len' cap' : Nat) (xs ys : List Int) (w : World) (S0 : IS w w.heap.size a len xs) (S1 : IS w w.heap.size a' len' ys) :
    Calls Tryd.prog 103 #[.slice a len cap, .slice a' len' cap'] w fun e w' => e = .returned (.bool (lessI xs ys)) ∧ Below w.heap.size w w' := by
  have hl := S0.len
  have hl' := S1.len
  have Hx := Lib.hid S0.1
  have Hy := Lib.hid S1.1
  go_enter Tryd.func103, Tryd.ntmps103
  go_wp2
  go_loopw [5] (fun i wr => ∃ k : Nat, k ≤ len ∧ k ≤ len' ∧ i = .int .i64 k ∧ Hid (lessI (xs.drop k) (ys.drop k) = lessI xs ys) ∧ Below w.heap.size w wr) (fun i _ => len - (intOf i).toNat)
  case atStart => exact ⟨0, Nat.zero_le _, Nat.zero_le _, rfl, rfl, Below.refl _ _⟩
  case round =>
    obtain ⟨k, hk, hk', rfl, hd, hB⟩ := hrel
    by_cases hlt : k < len
    · by_cases hlt' : k < len'
      · obtain ⟨b, off, x, rfl, hb, hc, hbd, hx, _⟩ := (S0.keep hB).at_ hlt
        obtain ⟨b', off', y, rfl, hb', hc', hbd', hy, _⟩ := (S1.keep hB).at_ hlt'
        by_cases hxy : x = y
        · subst hxy
          have hq : (x != x) = false := by simp
          have Hd := Lib.hid ((lessI_eq hx.out hy.out).symm.trans hd.out)
          go_wp2
          go_quiet (fail)
          go_wp2
          go_roundw
          case rel => exact ⟨k + 1, by omega, by omega, by go_num, Hd, below_drewN hB⟩
          case measure => simp [intOf]; omega
        · have hq : (x != y) = true := by simp [hxy]
          have Hd := Lib.hid ((lessI_ne hx.out hy.out hxy).symm.trans hd.out)
          clear hxy
          by_cases hlx : x < y
          all_goals
            go_wp2
            go_quiet (fail)
            go_wp2
            go_quiet (fail)
            go_wp2
            go_ret
            exact ⟨ret_bool (by rw [← Hd.out] <;> first | exact (decide_eq_true hlx).symm | exact (decide_eq_false hlx).symm), by (repeat (first | (with_reducible exact Below.refl _ _) | (with_reducible assumption) | (with_reducible refine Below.setCell ?_ ?side _; case side => first | (with_reducible exact Nat.le_refl _) | (simp; done) | (simp only [World.size_alloc, World.size_setCell, World.size_drew, World.heap_drewN] at *; omega)) | (with_reducible refine below_alloc ?_ _) | (with_reducible refine Below.drew ?_) | (with_reducible refine below_drewN ?_) | (with_reducible refine below_via (by assumption) ?_)))⟩
      · have Hd : Hid (lessI xs ys = decide (xs.length < ys.length)) := by rw [← hd.out]; exact lessI_end (.inr (by have := Hy.out; omega)) (by have := Hx.out; omega) (by have := Hy.out; omega)
        go_wp2
        go_ret
        exact ⟨ret_bool (by rw [Hd.out, Hx.out, Hy.out] <;> simp), hB⟩
    · have Hd : Hid (lessI xs ys = decide (xs.length < ys.length)) := by rw [← hd.out]; exact lessI_end (.inl (by have := Hx.out; omega)) (by have := Hx.out; omega) (by have := Hy.out; omega)
      go_wp2
      go_ret
      exact ⟨ret_bool (by rw [Hd.out, Hx.out, Hy.out] <;> simp), hB⟩

set_option maxHeartbeats 1600000 in
theorem better_spec (a : Option Addr) (len cap : Nat) (a1 : Option Addr) (len1 cap1 : Nat) (a2 : Option Addr) (len2 cap2 : Nat) (n : Int) (l : List Rd) (xs ys : List Int) (w : World) (hro : roadsOk l = true) (S0 : RdS w w.heap.size a len l) (S1 : IS w w.heap.size a1 len1 xs) (S2 : IS w w.heap.size a2 len2 ys) :
    Calls Tryd.prog 83 #[.slice a len cap, .slice a1 len1 cap1, .slice a2 len2 cap2, .int .i64 n] w fun e w' => e = .returned (.bool (betterB l n xs ys)) ∧ Below w.heap.size w w' := by
  have e1 := rFeeS_eq (xs := xs) (n := n) hro
  have e2 := rFeeS_eq (xs := ys) (n := n) hro
  have E1 := Lib.hid e1
  have E2 := Lib.hid e2
  have Hx := Lib.hid S1.1
  have Hy := Lib.hid S2.1
  have hl1 := S1.len
  have hl2 := S2.len
  obtain ⟨F, hF⟩ : ∃ F, F = rFee l xs n := ⟨_, rfl⟩
  obtain ⟨G, hG⟩ : ∃ G, G = rFee l ys n := ⟨_, rfl⟩
  have hb : Hid (betterB l n xs ys = if F ≠ G then decide (F < G) else if xs.length ≠ ys.length then decide (xs.length < ys.length) else lessI xs ys) := by unfold Hid betterB; rw [hF, hG]
  rw [← hF] at e1
  rw [← hG] at e2
  have Hf1 : ∀ W (T0 : RdS W W.heap.size a len l) (T1 : IS W W.heap.size a1 len1 xs), Calls Tryd.prog 82 #[.slice a len cap, .slice a1 len1 cap1, .int .i64 n] W fun e w' => e = .returned (.tuple #[.int .i64 F, .bool (rOkS l xs n)]) ∧ Below W.heap.size W w' := by
    intro W T0 T1
    rw [← e1]; exact routeFee_spec _ _ _ _ _ _ _ _ _ _ T0 T1
  have Hf2 : ∀ W (T0 : RdS W W.heap.size a len l) (T1 : IS W W.heap.size a2 len2 ys), Calls Tryd.prog 82 #[.slice a len cap, .slice a2 len2 cap2, .int .i64 n] W fun e w' => e = .returned (.tuple #[.int .i64 G, .bool (rOkS l ys n)]) ∧ Below W.heap.size W w' := by
    intro W T0 T1
    rw [← e2]; exact routeFee_spec _ _ _ _ _ _ _ _ _ _ T0 T1
  have H1 := Lib.hid Hf1
  have H2 := Lib.hid Hf2
  clear e1 e2 hF hG Hf1 Hf2 hro
  by_cases hFG : F = G
  · subst hFG
    have hq : (F != F) = false := by simp
    by_cases hll : len1 = len2
    · subst hll
      have hq2 : ((len1 : Int) != (len1 : Int)) = false := by simp
      have Hr : Hid (betterB l n xs ys = lessI xs ys) := by unfold Hid; rw [hb.out, if_neg (by simp), if_neg (by rw [Hx.out, Hy.out]; simp)]
      go_enter Tryd.func83, Tryd.ntmps83
      go_wp2_with fail
      refine (H1.out _ S0 S1).mono ?_
      rintro e w1 ⟨rfl, b1⟩
      go_wp2_with fail
      refine (H2.out _ (FS.keep S0 b1) (S2.keep b1)).mono ?_
      rintro e w2 ⟨rfl, b2⟩
      go_wp2_with fail
      refine (less_spec _ _ _ _ _ _ _ _ _ ((S1.keep b1).keep b2) ((S2.keep b1).keep b2)).mono ?_
      rintro e w3 ⟨rfl, b3⟩
      go_wp2
      go_ret
      exact ⟨ret_bool (by rw [Hr.out]), (b1.trans (b2.mono b1.size)).trans (b3.mono (Nat.le_trans b1.size b2.size))⟩
    · have hq2 : ((len1 : Int) != (len2 : Int)) = true := by simp; omega
      have Hr : Hid (betterB l n xs ys = decide (len1 < len2)) := by unfold Hid; rw [hb.out, if_neg (by simp), if_pos (by rw [Hx.out, Hy.out]; exact hll), Hx.out, Hy.out]
      clear hll
      go_enter Tryd.func83, Tryd.ntmps83
      go_wp2_with fail
      refine (H1.out _ S0 S1).mono ?_
      rintro e w1 ⟨rfl, b1⟩
      go_wp2_with fail
      refine (H2.out _ (FS.keep S0 b1) (S2.keep b1)).mono ?_
      rintro e w2 ⟨rfl, b2⟩
      go_wp2
      go_ret
      exact ⟨ret_bool (by rw [Hr.out] <;> simp), b1.trans (b2.mono b1.size)⟩
  · have hq : (F != G) = true := by simp [hFG]
    have Hr : Hid (betterB l n xs ys = decide (F < G)) := by unfold Hid; rw [hb.out, if_pos hFG]
    clear hFG
    go_enter Tryd.func83, Tryd.ntmps83
    go_wp2_with fail
    refine (H1.out _ S0 S1).mono ?_
    rintro e w1 ⟨rfl, b1⟩
    go_wp2_with fail
    refine (H2.out _ (FS.keep S0 b1) (S2.keep b1)).mono ?_
    rintro e w2 ⟨rfl, b2⟩
    go_wp2
    go_ret
    exact ⟨ret_bool (by rw [Hr.out]), b1.trans (b2.mono b1.size)⟩

set_option maxRecDepth 100000 in
set_option maxHeartbeats 8000000 in
theorem l14Try_spec (B0 : Nat) (l : List Rd) (n dst : Int) (hro : Hid (roadsOk l = true)) : ∀ (h : Nat) (best route ps : List Int) (at_ : Int) (a : Option Addr) (len cap : Nat) (ab : Option Addr) (lb cb : Nat) (ar : Option Addr) (lr cr : Nat) (w : World)
    (R0 : RdS w w.heap.size a len l) (R1 : IS w w.heap.size ab lb best) (R2 : IS w w.heap.size ar lr route) (hnb : ab = none → cb = 0) (hnr : ar = none → cr = 0) (hat : AtR l route ps at_) (hlen : route.length + (h + 1) ≤ 4) (hBw : B0 ≤ w.heap.size) (hbb : ∀ p, ab = some p → B0 ≤ p.block),
    Calls Tryd.prog 42 #[.slice a len cap, .slice ab lb cb, .slice ar lr cr, .int .i64 at_, .int .i64 dst, .int .i64 n, .int .i64 ((h : Int) + 1)] w (IntSl B0 (tryR l n dst (h + 1) best route ps at_) w) := by
  intro h
  induction h with
  | zero =>
    intro best route ps at_ a len cap ab lb cb ar lr cr w R0 R1 R2 hnb hnr hat hlen hBw hbb
    rw [show (((0 : Nat) : Int) + 1) = 1 from rfl]
    have hl := R0.lenB
    have Hln := Lib.hid R0.1
    have Hlr := Lib.hid R2.1
    have h40 : len ≤ 40 := by have := roadsOk_len hro.out; have := Hln.out; omega
    have hlr4 : lr ≤ 4 := by have := Hlr.out; omega
    have Hat := Lib.hid hat
    have Hlen := Lib.hid hlen
    have Hnb := Lib.hid hnb
    have Hnr := Lib.hid hnr
    have Hbb := Lib.hid hbb
    clear hat hlen hnb hnr hbb
    go_enter Tryd.func42, Tryd.ntmps42
    go_wp2_with fail
    go_loopw [1, 15, 16, 17, 18, 21] (fun vb _ _ _ _ i wr => ∃ (k : Nat) (xb : Option Addr) (yb zb : Nat), k ≤ len ∧ i = .int .i64 k ∧ vb = .slice xb yb zb ∧ IS wr wr.heap.size xb yb (tryTo l n dst 0 best route ps at_ k) ∧ Hid (xb = none → zb = 0) ∧ Below w.heap.size w wr ∧ Hid (∀ p, xb = some p → B0 ≤ p.block)) (fun _ _ _ _ _ i _ => len - (intOf i).toNat)
    case atStart => exact ⟨0, ab, lb, cb, Nat.zero_le _, rfl, rfl, R1, Hnb, Below.refl _ _, Hbb⟩
    case round =>
      obtain ⟨k, xb, yb, zb, hk, rfl, rfl, B1, hzb, hB, hxb⟩ := hrel
      have Hyb := Lib.hid B1.1
      have hybl := B1.len
      by_cases hlt : k < len
      · obtain ⟨g, off, rf, rt, rb, rp, rc, rfl, hg, c0, c1, c2, c3, c4, o0, o1, o2, o3, o4, hr, _⟩ := RdS.cells (FS.keep R0 hB) hlt
        clear c2 c3 c4 o0 o1 o2 o3 o4
        have Hsn := Lib.hid (tryTo_snoc l n dst 0 best route ps at_ k)
        by_cases hf : rf = at_
        · have t1 : (rf != at_) = false := by simp [hf]
          have Hnx := Lib.hid (Hat.out.ok hr.out hf (by have := Hlen.out; omega))
          have Hf := Lib.hid hf
          have hxs2 : route.length ≤ 1099511627776 := by have := Hlen.out; omega
          clear hf
          go_wp2_with (first | (at_builtin; refine wpList_append_ints rfl _ _ rfl wr.heap.size (.slice (some ⟨wr.heap.size, 0, none⟩) 0 0) [] rfl (OwnI.made _ _ (Nat.le_refl _)) ar lr cr route rfl (IS.keep (R2.keep hB) (below_alloc (Below.refl _ _) _)) Hnr.out (by simp) (by omega) (size_alloc_le _ _) ?_))
          intro v1 w1 hown1 hb1 _
          have h1 : Below wr.heap.size wr w1 := (below_alloc (Below.refl _ _) _).trans hb1
          have hz1 := h1.size
          go_wp2_with (first | (at_builtin; refine wpList_append_int rfl _ _ rfl wr.heap.size v1 route rfl (hown1.alloc _) _ _ rfl (new_cell0 _ _ _) hxs2 (Nat.le_trans h1.size (size_alloc_le _ _)) ?_))
          intro v2 w2 hown2 hb2
          have h2 : Below wr.heap.size wr w2 := (below_alloc h1 _).trans hb2
          have hz2 := h2.size
          clear hb1 hb2 hown1
          obtain ⟨a2, c2, hv, o2⟩ := OwnI.oi hown2 (by intro z hz; rcases List.mem_append.1 hz with hz | hz; exact R2.2.2.1 z hz; simp at hz; omega)
          subst hv
          clear hown2
          have i2 := o2.is
          have n2 := o2.nilcap
          have E2 : Hid (∀ p, a2 = some p → B0 ≤ p.block) := fun p hp => by
            have h5 := o2.ge p hp
            have h6 := hB.size
            omega
          have hnl : (route ++ [(k : Int)]).length = lr + 1 := by simp [Hlr.out]
          rw [hnl] at i2
          rw [hnl]
          clear hnl o2
          have N2 := Lib.hid n2
          clear n2
          go_wp2_with fail
          refine (routeOk_spec _ _ _ _ _ _ l (route ++ [(k : Int)]) _ (FS.keep (FS.keep R0 hB) h2) i2).mono ?_
          rintro e w3 ⟨he, b3⟩
          have h3 : Below wr.heap.size wr w3 := h2.trans (b3.mono hz2)
          have d1 := cell_keep h3 c1
          have i3 := i2.keep b3
          have hgz : g < w3.heap.size := Nat.lt_of_lt_of_le hg h3.size
          rw [routeOkS, hro.out, Hnx.out, Bool.true_and] at he
          clear i2 b3 h1 hz1 h2 hz2
          rcases Bool.eq_false_or_eq_true (hasB ps rt) with hh | hh
          · rw [hh, Bool.not_true] at he
            subst he
            have Hk : Hid (tryTo l n dst 0 best route ps at_ (k + 1) = tryTo l n dst 0 best route ps at_ k) := by unfold Hid; rw [Hsn.out]; exact tryStep_skip hr.out (.inr hh)
            clear hh
            go_wp2
            go_roundw
            case rel => exact ⟨k + 1, xb, yb, zb, by omega, by go_num, rfl, by rw [Hk.out]; exact B1.keep h3, hzb, hB.trans (h3.mono hB.size), hxb⟩
            case measure => simp [intOf]; omega
          · rw [hh, Bool.not_false] at he
            subst he
            by_cases ht : rt = dst
            · have t2 : (rt == dst) = true := by simp [ht]
              have Hend := Lib.hid (tryStep_end (route := route) (n := n) (go := tryR l n dst 0) (best := tryTo l n dst 0 best route ps at_ k) hr.out Hf.out hh ht)
              clear ht hh
              go_wp2_with fail
              refine (routeFee_spec _ _ _ _ _ _ _ l (route ++ [(k : Int)]) _ (FS.keep (FS.keep R0 hB) h3) i3).mono ?_
              rintro e w4 ⟨he, b4⟩
              have h4 : Below wr.heap.size wr w4 := h3.trans (b4.mono h3.size)
              have i4 := i3.keep b4
              rw [rOkS_t hro.out] at he
              clear b4 i3 h3 hgz d1
              cases hok : rOk l (route ++ [(k : Int)]) n with
              | false =>
                rw [hok] at he
                subst he
                have Hk : Hid (tryTo l n dst 0 best route ps at_ (k + 1) = tryTo l n dst 0 best route ps at_ k) := by unfold Hid; rw [Hsn.out, Hend.out]; exact offer_no hok
                clear hok
                go_wp2
                go_roundw
                case rel => exact ⟨k + 1, xb, yb, zb, by omega, by go_num, rfl, by rw [Hk.out]; exact B1.keep h4, hzb, hB.trans (h4.mono hB.size), hxb⟩
                case measure => simp [intOf]; omega
              | true =>
                rw [hok] at he
                subst he
                by_cases hbe : tryTo l n dst 0 best route ps at_ k = []
                · have t3 : ((yb : Int) == 0) = true := by have := Hyb.out; rw [hbe] at this; simp at this; simp; omega
                  have Hk : Hid (tryTo l n dst 0 best route ps at_ (k + 1) = route ++ [(k : Int)]) := by unfold Hid; rw [Hsn.out, Hend.out, hbe]; exact offer_new hok
                  clear hbe hok
                  go_wp2
                  go_roundw
                  case rel => exact ⟨k + 1, a2, lr + 1, c2, by omega, by go_num, rfl, by rw [Hk.out]; exact i4, N2, hB.trans (h4.mono hB.size), E2⟩
                  case measure => simp [intOf]; omega
                · have t3 : ((yb : Int) == 0) = false := by
                    have h5 : yb ≠ 0 := by intro h; have := Hyb.out; rw [h] at this; exact hbe (List.eq_nil_of_length_eq_zero this)
                    simp; omega
                  have Hbe := Lib.hid hbe
                  clear hbe
                  cases hbt : betterB l n (route ++ [(k : Int)]) (tryTo l n dst 0 best route ps at_ k) with
                  | true =>
                    have Hk : Hid (tryTo l n dst 0 best route ps at_ (k + 1) = route ++ [(k : Int)]) := by unfold Hid; rw [Hsn.out, Hend.out]; exact offer_yes hok hbt
                    have Hbt := Lib.hid hbt
                    clear hok hbt
                    go_wp2_with fail
                    refine (better_spec _ _ _ _ _ _ _ _ _ _ l _ _ _ hro.out (FS.keep (FS.keep R0 hB) h4) i4 (B1.keep h4)).mono ?_
                    rintro e w5 ⟨he, b5⟩
                    rw [Hbt.out] at he
                    subst he
                    have h5 : Below wr.heap.size wr w5 := h4.trans (b5.mono h4.size)
                    go_wp2
                    go_roundw
                    case rel => exact ⟨k + 1, a2, lr + 1, c2, by omega, by go_num, rfl, by rw [Hk.out]; exact i4.keep b5, N2, hB.trans (h5.mono hB.size), E2⟩
                    case measure => simp [intOf]; omega
                  | false =>
                    have Hk : Hid (tryTo l n dst 0 best route ps at_ (k + 1) = tryTo l n dst 0 best route ps at_ k) := by unfold Hid; rw [Hsn.out, Hend.out]; exact offer_keep Hbe.out hbt
                    have Hbt := Lib.hid hbt
                    clear hok hbt
                    go_wp2_with fail
                    refine (better_spec _ _ _ _ _ _ _ _ _ _ l _ _ _ hro.out (FS.keep (FS.keep R0 hB) h4) i4 (B1.keep h4)).mono ?_
                    rintro e w5 ⟨he, b5⟩
                    rw [Hbt.out] at he
                    subst he
                    have h5 : Below wr.heap.size wr w5 := h4.trans (b5.mono h4.size)
                    go_wp2
                    go_roundw
                    case rel => exact ⟨k + 1, xb, yb, zb, by omega, by go_num, rfl, by rw [Hk.out]; exact B1.keep h5, hzb, hB.trans (h5.mono hB.size), hxb⟩
                    case measure => simp [intOf]; omega
            · have t2 : (rt == dst) = false := by simp [ht]
              have Hgo := Lib.hid (tryStep_go (route := route) (n := n) (go := tryR l n dst 0) (best := tryTo l n dst 0 best route ps at_ k) hr.out Hf.out hh ht)
              have Hat2 := Lib.hid (Hat.out.on hr.out Hf.out hh)
              clear ht hh
              have Hk : Hid (tryTo l n dst 0 best route ps at_ (k + 1) = tryTo l n dst 0 best route ps at_ k) := by unfold Hid; rw [Hsn.out, Hgo.out]; rfl
              go_wp2
              go_roundw
              case rel => exact ⟨k + 1, xb, yb, zb, by omega, by go_num, rfl, by rw [Hk.out]; exact B1.keep h3, hzb, hB.trans (h3.mono hB.size), hxb⟩
              case measure => simp [intOf]; omega
        · have t1 : (rf != at_) = true := by simp [hf]
          have Hk : Hid (tryTo l n dst 0 best route ps at_ (k + 1) = tryTo l n dst 0 best route ps at_ k) := by unfold Hid; rw [Hsn.out]; exact tryStep_skip hr.out (.inl hf)
          clear hf
          go_wp2
          go_roundw
          case rel => exact ⟨k + 1, xb, yb, zb, by omega, by go_num, rfl, by rw [Hk.out]; exact B1, hzb, hB, hxb⟩
          case measure => simp [intOf]; omega
      · have e : k = len := by omega
        have Hr : Hid (tryTo l n dst 0 best route ps at_ k = tryR l n dst (0 + 1) best route ps at_) := by unfold Hid; rw [e, ← Hln.out]; rfl
        clear e
        go_wp2
        go_ret
        exact ⟨xb, yb, zb, rfl, by rw [← Hr.out]; exact B1, hzb.out, hB, hxb.out⟩
  | succ h' ih =>
    intro best route ps at_ a len cap ab lb cb ar lr cr w R0 R1 R2 hnb hnr hat hlen hBw hbb
    have Ih := Lib.hid ih
    clear ih
    have hh4 : h' ≤ 4 := by omega
    rw [show (((h' + 1 : Nat) : Int) + 1) = (h' : Int) + 1 + 1 from by omega]
    have hl := R0.lenB
    have Hln := Lib.hid R0.1
    have Hlr := Lib.hid R2.1
    have h40 : len ≤ 40 := by have := roadsOk_len hro.out; have := Hln.out; omega
    have hlr4 : lr ≤ 4 := by have := Hlr.out; omega
    have Hat := Lib.hid hat
    have Hlen := Lib.hid hlen
    have Hnb := Lib.hid hnb
    have Hnr := Lib.hid hnr
    have Hbb := Lib.hid hbb
    clear hat hlen hnb hnr hbb
    go_enter Tryd.func42, Tryd.ntmps42
    go_wp2_with fail
    go_loopw [1, 15, 16, 17, 18, 21] (fun vb _ _ _ _ i wr => ∃ (k : Nat) (xb : Option Addr) (yb zb : Nat), k ≤ len ∧ i = .int .i64 k ∧ vb = .slice xb yb zb ∧ IS wr wr.heap.size xb yb (tryTo l n dst (h' + 1) best route ps at_ k) ∧ Hid (xb = none → zb = 0) ∧ Below w.heap.size w wr ∧ Hid (∀ p, xb = some p → B0 ≤ p.block)) (fun _ _ _ _ _ i _ => len - (intOf i).toNat)
    case atStart => exact ⟨0, ab, lb, cb, Nat.zero_le _, rfl, rfl, R1, Hnb, Below.refl _ _, Hbb⟩
    case round =>
      obtain ⟨k, xb, yb, zb, hk, rfl, rfl, B1, hzb, hB, hxb⟩ := hrel
      have Hyb := Lib.hid B1.1
      have hybl := B1.len
      by_cases hlt : k < len
      · obtain ⟨g, off, rf, rt, rb, rp, rc, rfl, hg, c0, c1, c2, c3, c4, o0, o1, o2, o3, o4, hr, _⟩ := RdS.cells (FS.keep R0 hB) hlt
        clear c2 c3 c4 o0 o1 o2 o3 o4
        have Hsn := Lib.hid (tryTo_snoc l n dst (h' + 1) best route ps at_ k)
        by_cases hf : rf = at_
        · have t1 : (rf != at_) = false := by simp [hf]
          have Hnx := Lib.hid (Hat.out.ok hr.out hf (by have := Hlen.out; omega))
          have Hf := Lib.hid hf
          have hxs2 : route.length ≤ 1099511627776 := by have := Hlen.out; omega
          clear hf
          go_wp2_with (first | (at_builtin; refine wpList_append_ints rfl _ _ rfl wr.heap.size (.slice (some ⟨wr.heap.size, 0, none⟩) 0 0) [] rfl (OwnI.made _ _ (Nat.le_refl _)) ar lr cr route rfl (IS.keep (R2.keep hB) (below_alloc (Below.refl _ _) _)) Hnr.out (by simp) (by omega) (size_alloc_le _ _) ?_))
          intro v1 w1 hown1 hb1 _
          have h1 : Below wr.heap.size wr w1 := (below_alloc (Below.refl _ _) _).trans hb1
          have hz1 := h1.size
          go_wp2_with (first | (at_builtin; refine wpList_append_int rfl _ _ rfl wr.heap.size v1 route rfl (hown1.alloc _) _ _ rfl (new_cell0 _ _ _) hxs2 (Nat.le_trans h1.size (size_alloc_le _ _)) ?_))
          intro v2 w2 hown2 hb2
          have h2 : Below wr.heap.size wr w2 := (below_alloc h1 _).trans hb2
          have hz2 := h2.size
          clear hb1 hb2 hown1
          obtain ⟨a2, c2, hv, o2⟩ := OwnI.oi hown2 (by intro z hz; rcases List.mem_append.1 hz with hz | hz; exact R2.2.2.1 z hz; simp at hz; omega)
          subst hv
          clear hown2
          have i2 := o2.is
          have n2 := o2.nilcap
          have E2 : Hid (∀ p, a2 = some p → B0 ≤ p.block) := fun p hp => by
            have h5 := o2.ge p hp
            have h6 := hB.size
            omega
          have hnl : (route ++ [(k : Int)]).length = lr + 1 := by simp [Hlr.out]
          rw [hnl] at i2
          rw [hnl]
          clear hnl o2
          have N2 := Lib.hid n2
          clear n2
          go_wp2_with fail
          refine (routeOk_spec _ _ _ _ _ _ l (route ++ [(k : Int)]) _ (FS.keep (FS.keep R0 hB) h2) i2).mono ?_
          rintro e w3 ⟨he, b3⟩
          have h3 : Below wr.heap.size wr w3 := h2.trans (b3.mono hz2)
          have d1 := cell_keep h3 c1
          have i3 := i2.keep b3
          have hgz : g < w3.heap.size := Nat.lt_of_lt_of_le hg h3.size
          rw [routeOkS, hro.out, Hnx.out, Bool.true_and] at he
          clear i2 b3 h1 hz1 h2 hz2
          rcases Bool.eq_false_or_eq_true (hasB ps rt) with hh | hh
          · rw [hh, Bool.not_true] at he
            subst he
            have Hk : Hid (tryTo l n dst (h' + 1) best route ps at_ (k + 1) = tryTo l n dst (h' + 1) best route ps at_ k) := by unfold Hid; rw [Hsn.out]; exact tryStep_skip hr.out (.inr hh)
            clear hh
            go_wp2
            go_roundw
            case rel => exact ⟨k + 1, xb, yb, zb, by omega, by go_num, rfl, by rw [Hk.out]; exact B1.keep h3, hzb, hB.trans (h3.mono hB.size), hxb⟩
            case measure => simp [intOf]; omega
          · rw [hh, Bool.not_false] at he
            subst he
            by_cases ht : rt = dst
            · have t2 : (rt == dst) = true := by simp [ht]
              have Hend := Lib.hid (tryStep_end (route := route) (n := n) (go := tryR l n dst (h' + 1)) (best := tryTo l n dst (h' + 1) best route ps at_ k) hr.out Hf.out hh ht)
              clear ht hh
              go_wp2_with fail
              refine (routeFee_spec _ _ _ _ _ _ _ l (route ++ [(k : Int)]) _ (FS.keep (FS.keep R0 hB) h3) i3).mono ?_
              rintro e w4 ⟨he, b4⟩
              have h4 : Below wr.heap.size wr w4 := h3.trans (b4.mono h3.size)
              have i4 := i3.keep b4
              rw [rOkS_t hro.out] at he
              clear b4 i3 h3 hgz d1
              cases hok : rOk l (route ++ [(k : Int)]) n with
              | false =>
                rw [hok] at he
                subst he
                have Hk : Hid (tryTo l n dst (h' + 1) best route ps at_ (k + 1) = tryTo l n dst (h' + 1) best route ps at_ k) := by unfold Hid; rw [Hsn.out, Hend.out]; exact offer_no hok
                clear hok
                go_wp2
                go_roundw
                case rel => exact ⟨k + 1, xb, yb, zb, by omega, by go_num, rfl, by rw [Hk.out]; exact B1.keep h4, hzb, hB.trans (h4.mono hB.size), hxb⟩
                case measure => simp [intOf]; omega
              | true =>
                rw [hok] at he
                subst he
                by_cases hbe : tryTo l n dst (h' + 1) best route ps at_ k = []
                · have t3 : ((yb : Int) == 0) = true := by have := Hyb.out; rw [hbe] at this; simp at this; simp; omega
                  have Hk : Hid (tryTo l n dst (h' + 1) best route ps at_ (k + 1) = route ++ [(k : Int)]) := by unfold Hid; rw [Hsn.out, Hend.out, hbe]; exact offer_new hok
                  clear hbe hok
                  go_wp2
                  go_roundw
                  case rel => exact ⟨k + 1, a2, lr + 1, c2, by omega, by go_num, rfl, by rw [Hk.out]; exact i4, N2, hB.trans (h4.mono hB.size), E2⟩
                  case measure => simp [intOf]; omega
                · have t3 : ((yb : Int) == 0) = false := by
                    have h5 : yb ≠ 0 := by intro h; have := Hyb.out; rw [h] at this; exact hbe (List.eq_nil_of_length_eq_zero this)
                    simp; omega
                  have Hbe := Lib.hid hbe
                  clear hbe
                  cases hbt : betterB l n (route ++ [(k : Int)]) (tryTo l n dst (h' + 1) best route ps at_ k) with
                  | true =>
                    have Hk : Hid (tryTo l n dst (h' + 1) best route ps at_ (k + 1) = route ++ [(k : Int)]) := by unfold Hid; rw [Hsn.out, Hend.out]; exact offer_yes hok hbt
                    have Hbt := Lib.hid hbt
                    clear hok hbt
                    go_wp2_with fail
                    refine (better_spec _ _ _ _ _ _ _ _ _ _ l _ _ _ hro.out (FS.keep (FS.keep R0 hB) h4) i4 (B1.keep h4)).mono ?_
                    rintro e w5 ⟨he, b5⟩
                    rw [Hbt.out] at he
                    subst he
                    have h5 : Below wr.heap.size wr w5 := h4.trans (b5.mono h4.size)
                    go_wp2
                    go_roundw
                    case rel => exact ⟨k + 1, a2, lr + 1, c2, by omega, by go_num, rfl, by rw [Hk.out]; exact i4.keep b5, N2, hB.trans (h5.mono hB.size), E2⟩
                    case measure => simp [intOf]; omega
                  | false =>
                    have Hk : Hid (tryTo l n dst (h' + 1) best route ps at_ (k + 1) = tryTo l n dst (h' + 1) best route ps at_ k) := by unfold Hid; rw [Hsn.out, Hend.out]; exact offer_keep Hbe.out hbt
                    have Hbt := Lib.hid hbt
                    clear hok hbt
                    go_wp2_with fail
                    refine (better_spec _ _ _ _ _ _ _ _ _ _ l _ _ _ hro.out (FS.keep (FS.keep R0 hB) h4) i4 (B1.keep h4)).mono ?_
                    rintro e w5 ⟨he, b5⟩
                    rw [Hbt.out] at he
                    subst he
                    have h5 : Below wr.heap.size wr w5 := h4.trans (b5.mono h4.size)
                    go_wp2
                    go_roundw
                    case rel => exact ⟨k + 1, xb, yb, zb, by omega, by go_num, rfl, by rw [Hk.out]; exact B1.keep h5, hzb, hB.trans (h5.mono hB.size), hxb⟩
                    case measure => simp [intOf]; omega
            · have t2 : (rt == dst) = false := by simp [ht]
              have Hgo := Lib.hid (tryStep_go (route := route) (n := n) (go := tryR l n dst (h' + 1)) (best := tryTo l n dst (h' + 1) best route ps at_ k) hr.out Hf.out hh ht)
              have Hat2 := Lib.hid (Hat.out.on hr.out Hf.out hh)
              clear ht hh
              have Hk : Hid (tryTo l n dst (h' + 1) best route ps at_ (k + 1) = tryR l n dst (h' + 1) (tryTo l n dst (h' + 1) best route ps at_ k) (route ++ [(k : Int)]) (ps ++ [rt]) rt) := by unfold Hid; rw [Hsn.out, Hgo.out]
              go_wp2_with fail
              refine (Ih.out _ (route ++ [(k : Int)]) (ps ++ [rt]) rt _ _ _ _ _ _ _ _ _ _ (FS.keep (FS.keep R0 hB) h3) (B1.keep h3) i3 hzb.out N2.out Hat2.out (by have := Hlen.out; simp; omega) (by have h6 := hB.size; have h8 := h3.size; omega) hxb.out).mono ?_
              rintro e w4 ⟨x4, y4, z4, rfl, i4, n4, b4, e4⟩
              have N4 := Lib.hid n4
              have E4 := Lib.hid e4
              clear n4 e4
              have h4 : Below wr.heap.size wr w4 := h3.trans (b4.mono h3.size)
              go_wp2
              go_roundw
              case rel => exact ⟨k + 1, x4, y4, z4, by omega, by go_num, rfl, by rw [Hk.out]; exact i4, N4, hB.trans (h4.mono hB.size), E4⟩
              case measure => simp [intOf]; omega
        · have t1 : (rf != at_) = true := by simp [hf]
          have Hk : Hid (tryTo l n dst (h' + 1) best route ps at_ (k + 1) = tryTo l n dst (h' + 1) best route ps at_ k) := by unfold Hid; rw [Hsn.out]; exact tryStep_skip hr.out (.inl hf)
          clear hf
          go_wp2
          go_roundw
          case rel => exact ⟨k + 1, xb, yb, zb, by omega, by go_num, rfl, by rw [Hk.out]; exact B1, hzb, hB, hxb⟩
          case measure => simp [intOf]; omega
      · have e : k = len := by omega
        have Hr : Hid (tryTo l n dst (h' + 1) best route ps at_ k = tryR l n dst ((h' + 1) + 1) best route ps at_) := by unfold Hid; rw [e, ← Hln.out]; rfl
        clear e
        go_wp2
        go_ret
        exact ⟨xb, yb, zb, rfl, by rw [← Hr.out]; exact B1, hzb.out, hB, hxb.out⟩

end Go.Proofs.YtegnlijgjcfmlaaDoor
