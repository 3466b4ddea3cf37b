/- The best route, walked: the search. -/
import Derived.Test.YtegnlijgjcfmlaaDoorWBest3
import Derived.Deep.RegionLaw
import Derived.Deep.AppendLies
namespace Go.Proofs.YtegnlijgjcfmlaaDoor
open Go.RowKit
set_option linter.unusedVariables false
set_option linter.unusedSimpArgs false

set_option maxRecDepth 100000 in
set_option maxHeartbeats 16000000 in
theorem search_impl (l : List Rd) (n dst : Int) (hn : Nat) (a : Option Addr) (len cap B0 g : Nat) (hro : Hid (roadsOk l = true)) (hB0 : B0 ≤ g) (hn4 : hn ≤ 4) : ∀ (h : Nat) (best route ps : List Int) (at_ : Int) (a1 : Option Addr) (l1 k1 : Nat) (a2 : Option Addr) (l2 k2 : Nat) (w : World)
    (R0 : RdS w g a len l) (F0 : Fin l n dst hn a len cap B0 g best w) (R1 : IS w w.heap.size a1 l1 route) (R2 : IS w w.heap.size a2 l2 ps) (hn1 : a1 = none → k1 = 0) (hn2 : a2 = none → k2 = 0) (hne1 : ∀ p, a1 = some p → p.block ≠ g) (hne2 : ∀ p, a2 = some p → p.block ≠ g)
    (hat : AtR l route ps at_) (hlen : route.length + h = hn) (hl2 : ps.length ≤ route.length + 1),
    Calls Tryd.prog 40 #[.pointer (some ⟨g, 0, none⟩), .int .i64 at_, .slice a1 l1 k1, .slice a2 l2 k2] w fun e w' => e = .returned (.tuple #[]) ∧ Fin l n dst hn a len cap B0 g (tryR l n dst h best route ps at_) w' ∧ w.grownBy w' (some g) := by
  intro h
  induction h with
  | zero =>
    intro best route ps at_ a1 l1 k1 a2 l2 k2 w R0 F0 R1 R2 hn1 hn2 hne1 hne2 hat hlen hl2
    have FF := F0
    obtain ⟨hlt, c0, c1, c2, c3, ⟨ab, cb, c4, ob, hab⟩, c5, c6, fz⟩ := F0
    have Hlr := Lib.hid R1.1
    have hl1 : l1 = hn := by have := Hlr.out; omega
    subst hl1
    clear hn1 hn2 hne1 hne2 hat hlen hab R2
    go_enter Tryd.func40, Tryd.ntmps40
    go_wp2
    first | (refine bodyPost_ret (results_none rfl _ _ _) rfl ?_) | go_end0
    exact ⟨rfl, FF, World.grownBy.refl _ _⟩
  | succ h' ih =>
    intro best route ps at_ a1 l1 k1 a2 l2 k2 w R0 F0 R1 R2 hn1 hn2 hne1 hne2 hat hlen hl2
    have FF := F0
    obtain ⟨hlt, c0, c1, c2, c3, ⟨ab, cb, c4, ob, hab⟩, c5, c6, fz⟩ := F0
    have hl := R0.lenB
    have Hln := Lib.hid R0.1
    have Hlr := Lib.hid R1.1
    have Hlp := Lib.hid R2.1
    have h40 : len ≤ 40 := by have := roadsOk_len hro.out; have := Hln.out; omega
    have hl1 : l1 + (h' + 1) = hn := by have := Hlr.out; omega
    have hl2' : l2 ≤ 5 := by have := Hlp.out; omega
    have Hat := Lib.hid hat
    have Hlen := Lib.hid hlen
    have Hl2 := Lib.hid hl2
    have Hn1 := Lib.hid hn1
    have Hn2 := Lib.hid hn2
    have Hne1 := Lib.hid hne1
    have Hne2 := Lib.hid hne2
    have Ih := Lib.hid ih
    have Hl1 := Lib.hid hl1
    have hl1' : l1 < hn := by omega
    have t0 : decide (hn ≤ l1) = false := decide_eq_false (by omega)
    clear hat hlen hl2 hn1 hn2 hne1 hne2 ih hab hl1
    go_enter Tryd.func40, Tryd.ntmps40
    go_wp2_with fail
    go_loopw [8, 9, 10, 23] (fun _ _ _ i wr => ∃ (k : Nat), k ≤ len ∧ i = .int .i64 k ∧ Fin l n dst hn a len cap B0 g (tryTo l n dst h' best route ps at_ k) wr ∧ w.grownBy wr (some g)) (fun _ _ _ i _ => len - (intOf i).toNat)
    case atStart => exact ⟨0, Nat.zero_le _, rfl, FF, World.grownBy.refl _ _⟩
    case round =>
      obtain ⟨k, hk, rfl, FW, hG⟩ := hrel
      by_cases hlt2 : k < len
      · obtain ⟨gr, off, rf, rt, rb, rp, rc, rfl, hg, c0', c1', c2', c3', c4', o0, o1, o2, o3, o4, hr, _⟩ := RdS.cells (FS.keepG R0 hG (Nat.le_refl _)) hlt2
        have Hrt := Lib.hid o1
        clear o0 o1 o2 o3 o4
        have hgw := FW.lt
        have J1 := IS.keep ((R1.keepG hG Hne1.out).mono hG.size) (below_alloc (Below.refl wr.heap.size wr) (.cells #[.int .i64 rf, .int .i64 rt, .int .i64 rb, .int .i64 rp, .int .i64 rc] 32))
        have J2 := IS.keep ((R2.keepG hG Hne2.out).mono hG.size) (below_alloc (Below.refl wr.heap.size wr) (.cells #[.int .i64 rf, .int .i64 rt, .int .i64 rb, .int .i64 rp, .int .i64 rc] 32))
        have JF := FW.keep (below_alloc (Below.refl wr.heap.size wr) (.cells #[.int .i64 rf, .int .i64 rt, .int .i64 rb, .int .i64 rp, .int .i64 rc] 32))
        have JR : RdS (wr.alloc (.cells #[.int .i64 rf, .int .i64 rt, .int .i64 rb, .int .i64 rp, .int .i64 rc] 32)) (wr.alloc (.cells #[.int .i64 rf, .int .i64 rt, .int .i64 rb, .int .i64 rp, .int .i64 rc] 32)).heap.size (some ⟨gr, off, none⟩) len l := FS.keep (FS.mono (FS.keepG R0 hG (Nat.le_refl _)) (Nat.le_of_lt hgw)) (below_alloc (Below.refl wr.heap.size wr) (.cells #[.int .i64 rf, .int .i64 rt, .int .i64 rb, .int .i64 rp, .int .i64 rc] 32))
        have Hsn := Lib.hid (tryTo_snoc l n dst h' best route ps at_ k)
        by_cases hf : rf = at_
        · have t1 : (rf != at_) = false := by simp [hf]
          rcases Bool.eq_false_or_eq_true (hasB ps rt) with hh | hh
          · have Hk : Hid (tryTo l n dst h' best route ps at_ (k + 1) = tryTo l n dst h' best route ps at_ k) := by unfold Hid; rw [Hsn.out]; exact tryStep_skip hr.out (.inr hh)
            have Hhh := Lib.hid hh
            clear hf hh
            go_wp2_with (go_at_call 63; refine (hasInt_impl _ _ _ _ ps _ J2).mono ?_; rintro e w1 ⟨he, rfl⟩; rw [Hhh.out] at he; subst he)
            go_roundw
            case rel => exact ⟨k + 1, by omega, by go_num, by rw [Hk.out]; exact JF, grown_trans hG (grown_of_below g (below_alloc (Below.refl _ _) _))⟩
            case measure => simp [intOf]; omega
          · have Hf := Lib.hid hf
            have Hhh := Lib.hid hh
            clear hf hh
            go_wp2_with (first | (go_at_call 63; refine (hasInt_impl _ _ _ _ ps _ J2).mono ?_; rintro e w1 ⟨he, rfl⟩; rw [Hhh.out] at he; subst he) | (go_at_call 79; refine (copyInts_impl _ _ _ route _ J1 Hn1.out (by omega)).mono ?_; rintro e w1 ⟨⟨a3, k3, rfl, o3⟩, b1⟩) | (at_builtin; refine wpList_append_int rfl _ _ rfl (wr.alloc (.cells #[.int .i64 rf, .int .i64 rt, .int .i64 rb, .int .i64 rp, .int .i64 rc] 32)).heap.size _ route rfl (o3.1.alloc _) _ _ rfl (new_cell0 _ _ _) (by have := Hlr.out; omega) (Nat.le_trans b1.size (size_alloc_le _ _)) ?_))
            intro v2 w2 hown2 hb2
            have hs1 : (wr.alloc (.cells #[.int .i64 rf, .int .i64 rt, .int .i64 rb, .int .i64 rp, .int .i64 rc] 32)).heap.size = wr.heap.size + 1 := by simp
            rw [← hs1] at hown2 hb2
            clear hs1
            have h2 : Below (wr.alloc (.cells #[.int .i64 rf, .int .i64 rt, .int .i64 rb, .int .i64 rp, .int .i64 rc] 32)).heap.size (wr.alloc (.cells #[.int .i64 rf, .int .i64 rt, .int .i64 rb, .int .i64 rp, .int .i64 rc] 32)) w2 := (below_alloc b1 _).trans hb2
            have hz2 := h2.size
            obtain ⟨a4, k4, hv, o4⟩ := OwnI.oi hown2 (by intro z hz; rcases List.mem_append.1 hz with hz | hz; exact R1.2.2.1 z hz; simp at hz; omega)
            subst hv
            have hnl : (route ++ [(k : Int)]).length = l1 + 1 := by simp [Hlr.out]
            rw [hnl] at o4
            rw [hnl]
            clear hnl hown2 hb2 o3 b1
            have F2 := JF.keep h2
            have I2 := o4.is
            have N2 := Lib.hid o4.nilcap
            have E3 : Hid (∀ p, a4 = some p → p.block ≠ g) := fun p hp => by
              have h1 := o4.ge p hp
              have h2 : (wr.alloc (.cells #[.int .i64 rf, .int .i64 rt, .int .i64 rb, .int .i64 rp, .int .i64 rc] 32)).heap.size = wr.heap.size + 1 := by simp
              omega
            have d1 : w2.cell? ⟨wr.heap.size, 1, none⟩ = some (.int .i64 rt) := cell_keep h2 (by simp [go_sem])
            have hz3 : wr.heap.size < w2.heap.size := by have := hz2; simp at this; omega
            have f1 := F2.c1
            have hfl := F2.lt
            have T2 := FS.keep JR h2
            have P2 := J2.keep h2
            clear J1 J2 JF JR o4
            by_cases ht : rt = dst
            · have t2 : (rt == dst) = true := by simp [ht]
              have Hend := Lib.hid (tryStep_end (route := route) (n := n) (go := tryR l n dst h') (best := tryTo l n dst h' best route ps at_ k) hr.out Hf.out Hhh.out ht)
              clear ht
              go_wp2
              go_quiet (fail)
              have F3 : Fin l n dst hn _ len cap B0 g (tryTo l n dst h' best route ps at_ k) (w2.drewN nq) := F2.keep (below_drewN (Below.refl _ _))
              go_wp2_with (go_at_call 80; refine (offer_impl l n dst hn _ len cap B0 g (tryTo l n dst h' best route ps at_ k) (route ++ [(k : Int)]) _ _ _ (w2.drewN nq) (by exact T2) F3 (IS.drewN I2 nq) N2.out E3.out (by omega) hB0).mono ?_; rintro e w4 ⟨rfl, F4, g4⟩)
              go_roundw
              case rel => exact ⟨k + 1, by omega, by go_num, by rw [Hsn.out, Hend.out]; exact F4, grown_trans (grown_trans hG (grown_of_below g (below_drewN (below_via h2 (below_alloc (Below.refl _ _) _))))) g4⟩
              case measure => simp [intOf]; omega
            · have t2 : (rt == dst) = false := by simp [ht]
              have Hgo := Lib.hid (tryStep_go (route := route) (n := n) (go := tryR l n dst h') (best := tryTo l n dst h' best route ps at_ k) hr.out Hf.out Hhh.out ht)
              have Hat2 := Lib.hid (Hat.out.on hr.out Hf.out Hhh.out)
              clear ht
              go_wp2
              go_quiet (fail)
              have H3 : Below w2.heap.size w2 (w2.drewN nq) := below_drewN (Below.refl _ _)
              obtain ⟨wz, hwz⟩ : ∃ wz, wz = w2.drewN nq := ⟨_, rfl⟩
              rw [← hwz] at H3 ⊢
              have F3 := F2.keep H3
              have I3 := I2.keep H3
              have T3 := FS.keep T2 H3
              have P3 := P2.keep H3
              have d3 := cell_keep H3 d1
              have hgz := F3.lt
              have hrz : wr.heap.size < wz.heap.size := Nat.lt_of_lt_of_le hz3 H3.size
              have HG : Hid (w.grownBy wz (some g)) := grown_trans hG (grown_of_below g ((below_via h2 (below_alloc (Below.refl _ _) _)).trans (H3.mono (by have := (below_via h2 (below_alloc (Below.refl wr.heap.size wr) (.cells #[.int .i64 rf, .int .i64 rt, .int .i64 rb, .int .i64 rp, .int .i64 rc] 32))).size; omega))))
              clear hwz H3 F2 I2 T2 P2 d1 h2 hz2 hz3 f1 hfl
              go_upto_region 8 with fail
              go_region_law (first
                | (go_simp; go_at_call 79; refine (copyInts_impl _ _ _ ps _ (IS.keep P3 (by (repeat (first | (with_reducible exact Below.refl _ _) | (with_reducible assumption) | (with_reducible refine Below.setCell ?_ ?side _; case side => first | (with_reducible exact Nat.le_refl _) | (simp; done) | (simp only [World.size_alloc, World.size_setCell, World.size_drew, World.heap_drewN] at *; omega)) | (with_reducible refine below_alloc ?_ _) | (with_reducible refine Below.drew ?_) | (with_reducible refine below_drewN ?_) | (with_reducible refine below_via (by assumption) ?_))))) Hn2.out (by omega)).mono ?_; rintro e w3 ⟨⟨a5, k5, rfl, o5⟩, b3⟩; have h5 : Below wz.heap.size wz w3 := below_via b3 (by (repeat (first | (with_reducible exact Below.refl _ _) | (with_reducible assumption) | (with_reducible refine Below.setCell ?_ ?side _; case side => first | (with_reducible exact Nat.le_refl _) | (simp; done) | (simp only [World.size_alloc, World.size_setCell, World.size_drew, World.heap_drewN] at *; omega)) | (with_reducible refine below_alloc ?_ _) | (with_reducible refine Below.drew ?_) | (with_reducible refine below_drewN ?_) | (with_reducible refine below_via (by assumption) ?_)))); have d5 := cell_keep h5 d3; have hz5 : wr.heap.size < w3.heap.size := Nat.lt_of_lt_of_le hrz h5.size; have d5' : ∀ o, (w3.alloc o).cell? ⟨wr.heap.size, 1, none⟩ = some (.int .i64 rt) := (fun o => cell_keep (below_alloc (Below.refl w3.heap.size w3) o) d5))
                | (refine step_append_int rfl _ _ rfl _ _ ps rfl o5.1 _ rt rfl (cell_keep b3 (new_cell0 _ _ _)) (by have := Hlp.out; omega) b3.size ?_; intro v6 w6 hown6 hb6; have h6 : Below wz.heap.size wz w6 := h5.trans (hb6.mono (by simp)); have d6 := cell_keep h6 d3; have hz6 : wr.heap.size < w6.heap.size := Nat.lt_of_lt_of_le hrz h6.size)
                | (refine step_append_int rfl _ _ rfl _ _ ps rfl (o5.1.alloc _) _ rt rfl (new_cell0 _ _ _) (by have := Hlp.out; omega) (Nat.le_trans b3.size (size_alloc_le _ _)) ?_; intro v6 w6 hown6 hb6; have h6 : Below wz.heap.size wz w6 := (below_alloc h5 _).trans (hb6.mono (by simp)); have d6 := cell_keep h6 d3; have hz6 : wr.heap.size < w6.heap.size := Nat.lt_of_lt_of_le hrz h6.size)
                | (go_simp; go_at_call 40; obtain ⟨a7, k7, hv7, o7⟩ := OwnI.oi hown6 (by intro z hz; rcases List.mem_append.1 hz with hz | hz; exact R2.2.2.1 z hz; obtain ⟨g0, g1⟩ := Hrt.out; simp at hz; subst hz; exact ⟨g0, g1⟩); subst hv7; refine (Ih.out (tryTo l n dst h' best route ps at_ k) (route ++ [(k : Int)]) (ps ++ [rt]) rt a4 (l1 + 1) k4 a7 _ k7 w6 (FS.keepB (FS.keepG R0 HG.out (Nat.le_refl _)) h6 (by omega)) (F3.keep h6) (I3.keep h6) o7.is N2.out o7.nilcap E3.out (fun p hp => by have := OI.ge o7 p hp; simp at this; omega) Hat2.out (by have := Hlen.out; simp; omega) (by have := Hl2.out; simp; omega)).mono ?_; rintro e w8 ⟨rfl, F8, G8⟩))
              all_goals
                go_wp2
                go_roundw
                case rel => exact ⟨k + 1, by omega, by go_num, by rw [Hsn.out, Hgo.out]; exact F8, grown_trans (grown_trans HG.out (grown_of_below g h6)) G8⟩
                case measure => simp [intOf]; omega
        · have t1 : (rf != at_) = true := by simp [hf]
          have Hk : Hid (tryTo l n dst h' best route ps at_ (k + 1) = tryTo l n dst h' best route ps at_ k) := by unfold Hid; rw [Hsn.out]; exact tryStep_skip hr.out (.inl hf)
          clear hf
          go_wp2
          go_roundw
          case rel => exact ⟨k + 1, by omega, by go_num, by rw [Hk.out]; exact JF, grown_trans hG (grown_of_below g (below_alloc (Below.refl _ _) _))⟩
          case measure => simp [intOf]; omega
      · have e : k = len := by omega
        have Hr : Hid (tryTo l n dst h' best route ps at_ k = tryR l n dst (h' + 1) best route ps at_) := by unfold Hid; rw [e, ← Hln.out]; rfl
        clear e
        go_wp2
        first | (refine bodyPost_ret (results_none rfl _ _ _) rfl ?_) | go_end0
        exact ⟨rfl, by rw [← Hr.out]; exact FW, hG⟩

end Go.Proofs.YtegnlijgjcfmlaaDoor
